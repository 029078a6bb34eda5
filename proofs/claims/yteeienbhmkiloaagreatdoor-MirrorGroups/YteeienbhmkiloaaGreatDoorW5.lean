import Derived.Test.YteeienbhmkiloaaGreatDoorW4
set_option linter.unusedSimpArgs false
set_option linter.unusedVariables false
namespace Go.Proofs
open Go.Lx Tryz

theorem reach_good {s : List Int} (hn : 2 ≤ leadF (gt s 0)) {j : Nat} (h1 : 1 ≤ j) (h2 : (j : Int) ≤ leadF (gt s 0)) (h3 : j ≤ s.length) : j ≤ reachF s ↔ goodN s j = true := by
  have e : reachF s = 1 + tailN (gt s 0) 1 ((leadF (gt s 0)).toNat - 1) (s.drop 1) := by unfold reachF; rw [if_neg (by omega)]
  have g := tailN_good s ((leadF (gt s 0)).toNat - 1) 1 (s.drop 1) rfl (Nat.le_refl _) rfl (j - 1) (by omega) (by rw [List.length_drop]; omega)
  rw [show 1 + (j - 1) = j by omega] at g
  rw [← g]; omega
theorem c_reach (N : Nat → Prop) (h : Hp) (hN : ∀ b, N b → b < h.size) (s : List Int) {a_s : Option Addr} {c_s : Nat} (s_s : Sl r8 N h a_s c_s s) (hs : 1 ≤ s.length) : C prog 51 [.slice a_s s.length c_s] h (fun v h' => v = .tuple #[.int .i64 (reachF s : Int), .int .i64 (leadF (gt s 0))] ∧ Ext h h') := by
  have st := St.init hN
  have ns_s := s_s.ll
  have hlc := lead_cases (gt s 0)
  have hrl := reach_le s (by intro e; rw [e] at hs; simp at hs)
  refine enter func51 rfl ntmps51 results51 rfl rfl ?_
  refine x_seq ?_
  refine x_region ?_
  refine r1 rfl (p_as rfl) ?_
  refine r1 rfl (p_as rfl) ?_
  refine o_nil ?_
  refine x_seq ?_
  refine x_region ?_
  refine r1 rfl (p_mv rfl) ?_
  refine r1 rfl (p_idx runUnderlying33 sizeOf5 rfl rfl (by omega) ((s_s.gr st.gr).isi (i := 0) (by omega))) ?_
  obtain ⟨cs1, R1, C1⟩ := (s_s.gr st.gr).at_ (0) (by omega)
  obtain ⟨rfl, p1⟩ := R1
  refine r1 rfl (p_ld isAgg5 rfl (C1 0 _ rfl)) ?_
  refine o1 rfl (s_call call82 rfl (c_Lead N h st.lt (gt s 0) p1) ?_)
  rintro _ hp2 ⟨rfl, x2⟩
  have st := st.ext x2
  refine r1 rfl (p_as rfl) ?_
  refine o_nil ?_
  refine x_seq ?_
  refine x_seq ?_
  refine x_region ?_
  refine r1 rfl (p_mv rfl) ?_
  refine r1 rfl (p_lss rfl rfl) ?_
  refine o_nil ?_
  refine x_cond rfl (fun h0 => ?_) (fun h0 => ?_)
  · skip
    try simp only [Bool.and_eq_true, Bool.or_eq_true, Bool.not_eq_true', decide_eq_true_eq, decide_eq_false_iff_not, Bool.or_eq_false_iff, Bool.and_eq_false_iff, Bool.not_eq_false'] at h0
    refine x_seq ?_
    refine x_region ?_
    refine r1 rfl (p_mv rfl) ?_
    refine r1 rfl (p_mv rfl) ?_
    refine r1 rfl (p_as rfl) ?_
    refine r1 rfl (p_as rfl) ?_
    refine o_nil ?_
    refine x_ret (fin2 rfl rfl ?_)
    have e : (reachF s : Int) = leadF (gt s 0) := by unfold reachF; rw [if_pos h0]; omega
    rw [e]
    exact ⟨rfl, st.x⟩
  · skip
    try simp only [Bool.and_eq_true, Bool.or_eq_true, Bool.not_eq_true', decide_eq_true_eq, decide_eq_false_iff_not, Bool.or_eq_false_iff, Bool.and_eq_false_iff, Bool.not_eq_false'] at h0
    have e0 : sec2 (gt s 0) = (lo2 (gt s 0), hi2 (gt s 0)) := by unfold sec2; rw [if_neg h0]
    refine x_skip ?_
    refine x_seq ?_
    refine x_region ?_
    refine r1 rfl (p_mv rfl) ?_
    refine r1 rfl (p_idx runUnderlying33 sizeOf5 rfl rfl (by omega) ((s_s.gr st.gr).isi (i := 0) (by omega))) ?_
    obtain ⟨cs3, R3, C3⟩ := (s_s.gr st.gr).at_ (0) (by omega)
    obtain ⟨rfl, p3⟩ := R3
    refine r1 rfl (p_ld isAgg5 rfl (C3 0 _ rfl)) ?_
    refine o1 rfl (s_call call83 rfl (c_Second N hp2 st.lt (gt s 0) p3) ?_)
    rintro _ hp4 ⟨rfl, p4_0, p4_1, x4⟩
    have st := st.ext x4
    refine r1 rfl (p_mv rfl) ?_
    refine r1 rfl (p_ex rfl rfl) ?_
    refine r1 rfl (p_ex rfl rfl) ?_
    refine r1 rfl (p_as rfl) ?_
    refine r1 rfl (p_as rfl) ?_
    refine o_nil ?_
    refine x_seq ?_
    refine x_region ?_
    refine r1 rfl (p_as rfl) ?_
    refine o_nil ?_
    refine x_seq ?_
    refine x_block ?_
    refine x_loope (σ := Nat × (Nat → Prop)) (fun st_ E0 => match st_ with | (k, M_) => (7, .int .i64 (k : Int)) :: (5, .int .u8 (if k = 1 then (sec2 (gt s 0)).1 else 128)) :: (6, .int .u8 (if k = 1 then (sec2 (gt s 0)).2 else 191)) :: E0) [(0, _), (4, _)] (fun st_ h' => match st_ with | (k, M_) => St N h (fun _ => False) M_ h' ∧ (1 ≤ k ∧ (k : Int) ≤ leadF (gt s 0) ∧ k ≤ s.length) ∧ (goodN s k = true)) (fun st_ => match st_ with | (k, M_) => s.length - k) (1, N) ⟨⟨rfl, rfl, rfl, rfl, rfl, trivial⟩, rfl⟩ ?_ ?_
    · skip
      refine ⟨st, ?_, ?_⟩
      · omega
      · rfl
    rintro ⟨k, M_⟩ h' ⟨st, hi0, hi1⟩
    show X _ _ _ _ (_ :: _) _ _
    have hgs : (k : Int) < leadF (gt s 0) → k < s.length → (k + 1 ≤ reachF s ↔ (if k = 1 then (sec2 (gt s 0)).1 else 128) ≤ gt s (k : Int) ∧ gt s (k : Int) ≤ (if k = 1 then (sec2 (gt s 0)).2 else 191)) := by
      intro g1 g2
      rw [reach_good (by omega) (by omega) (by omega) (by omega)]
      obtain ⟨j, rfl⟩ : ∃ j, k = j + 1 := ⟨k - 1, by omega⟩
      simp only [goodN, hi1, Bool.true_and, okB, e0]
      have : (((j + 1 : Nat) : Int)) = (j : Int) + 1 := by omega
      rw [this]
      split <;> simp
    refine x_seq ?_
    refine x_seq ?_
    refine x_region ?_
    refine r1 rfl (p_mv rfl) ?_
    refine r1 rfl (p_mv rfl) ?_
    refine r1 rfl (p_lss rfl rfl) ?_
    refine r1 rfl (p_mv rfl) ?_
    apply o_and 5 (dj := 26) (d := 31) rfl
    · intro hg6_4
      have hg6_4_ := hg6_4
      try simp only [Bool.and_eq_true, Bool.or_eq_true, Bool.not_eq_true', decide_eq_true_eq, decide_eq_false_iff_not, Bool.or_eq_false_iff, Bool.and_eq_false_iff] at hg6_4_
      refine r1h rfl rfl rfl hg6_4 (p_mv rfl) ?_
      refine r1h rfl rfl rfl hg6_4 (p_mv rfl) ?_
      refine r1h rfl rfl rfl hg6_4 (p_len runUnderlying33 rfl) ?_
      refine r1h rfl rfl rfl hg6_4 (p_lss rfl rfl) ?_
      refine r1 rfl (p_pickt hg6_4 rfl rfl rfl) ?_
      exact o_nil ⟨rfl, rfl, by repeat (first | exact le_r _ | refine le_c rfl ?_)⟩
    · intro hg6_4
      refine o1n rfl rfl rfl hg6_4 ?_
      refine o1n rfl rfl rfl hg6_4 ?_
      refine o1n rfl rfl rfl hg6_4 ?_
      refine o1n rfl rfl rfl hg6_4 ?_
      refine r1 rfl (p_pickf hg6_4 rfl rfl rfl) ?_
      exact o_nil ⟨rfl, rfl, by repeat (first | exact le_r _ | refine le_c rfl ?_)⟩
    refine r1 rfl (p_mv rfl) ?_
    apply o_and 7 (dj := 32) (d := 39) rfl
    · intro hg6_10
      have hg6_10_ := hg6_10
      try simp only [Bool.and_eq_true, Bool.or_eq_true, Bool.not_eq_true', decide_eq_true_eq, decide_eq_false_iff_not, Bool.or_eq_false_iff, Bool.and_eq_false_iff] at hg6_10_
      refine r1h rfl rfl rfl hg6_10 (p_mv rfl) ?_
      refine r1h rfl rfl rfl hg6_10 (p_mv rfl) ?_
      refine r1h rfl rfl rfl hg6_10 (p_idx runUnderlying33 sizeOf5 rfl rfl (by omega) ((s_s.gr st.gr).isi (i := (k : Int)) (by omega))) ?_
      obtain ⟨cs5, R5, C5⟩ := (s_s.gr st.gr).at_ ((k : Int)) (by omega)
      obtain ⟨rfl, p5⟩ := R5
      refine r1h rfl rfl rfl hg6_10 (p_ld isAgg5 rfl (C5 0 _ rfl)) ?_
      refine r1h rfl rfl rfl hg6_10 (p_mv rfl) ?_
      refine r1h rfl rfl rfl hg6_10 (p_geq rfl rfl) ?_
      refine r1 rfl (p_pickt hg6_10 rfl rfl rfl) ?_
      exact o_nil ⟨rfl, rfl, by repeat (first | exact le_r _ | refine le_c rfl ?_)⟩
    · intro hg6_10
      refine o1n rfl rfl rfl hg6_10 ?_
      refine o1n rfl rfl rfl hg6_10 ?_
      refine o1n rfl rfl rfl hg6_10 ?_
      refine o1n rfl rfl rfl hg6_10 ?_
      refine o1n rfl rfl rfl hg6_10 ?_
      refine o1n rfl rfl rfl hg6_10 ?_
      refine r1 rfl (p_pickf hg6_10 rfl rfl rfl) ?_
      exact o_nil ⟨rfl, rfl, by repeat (first | exact le_r _ | refine le_c rfl ?_)⟩
    refine r1 rfl (p_mv rfl) ?_
    apply o_and 7 (dj := 40) (d := 47) rfl
    · intro hg6_18
      have hg6_18_ := hg6_18
      try simp only [Bool.and_eq_true, Bool.or_eq_true, Bool.not_eq_true', decide_eq_true_eq, decide_eq_false_iff_not, Bool.or_eq_false_iff, Bool.and_eq_false_iff] at hg6_18_
      refine r1h rfl rfl rfl hg6_18 (p_mv rfl) ?_
      refine r1h rfl rfl rfl hg6_18 (p_mv rfl) ?_
      refine r1h rfl rfl rfl hg6_18 (p_idx runUnderlying33 sizeOf5 rfl rfl (by omega) ((s_s.gr st.gr).isi (i := (k : Int)) (by omega))) ?_
      obtain ⟨cs6, R6, C6⟩ := (s_s.gr st.gr).at_ ((k : Int)) (by omega)
      obtain ⟨rfl, p6⟩ := R6
      refine r1h rfl rfl rfl hg6_18 (p_ld isAgg5 rfl (C6 0 _ rfl)) ?_
      refine r1h rfl rfl rfl hg6_18 (p_mv rfl) ?_
      refine r1h rfl rfl rfl hg6_18 (p_leq rfl rfl) ?_
      refine r1 rfl (p_pickt hg6_18 rfl rfl rfl) ?_
      exact o_nil ⟨rfl, rfl, by repeat (first | exact le_r _ | refine le_c rfl ?_)⟩
    · intro hg6_18
      refine o1n rfl rfl rfl hg6_18 ?_
      refine o1n rfl rfl rfl hg6_18 ?_
      refine o1n rfl rfl rfl hg6_18 ?_
      refine o1n rfl rfl rfl hg6_18 ?_
      refine o1n rfl rfl rfl hg6_18 ?_
      refine o1n rfl rfl rfl hg6_18 ?_
      refine r1 rfl (p_pickf hg6_18 rfl rfl rfl) ?_
      exact o_nil ⟨rfl, rfl, by repeat (first | exact le_r _ | refine le_c rfl ?_)⟩
    refine o_nil ?_
    refine x_cond rfl (fun hc => ?_) (fun hc => ?_)
    · skip
      try simp only [Bool.and_eq_true, Bool.or_eq_true, Bool.not_eq_true', decide_eq_true_eq, decide_eq_false_iff_not, Bool.or_eq_false_iff, Bool.and_eq_false_iff, Bool.not_eq_false'] at hc
      have hk1 : k + 1 ≤ reachF s := (hgs (by omega) (by omega)).2 (by omega)
      refine x_skip ?_
      refine x_block ?_
      refine x_seq ?_
      refine x_region ?_
      refine r1 rfl (p_as rfl) ?_
      refine r1 rfl (p_as rfl) ?_
      refine o_nil ?_
      refine x_region ?_
      refine r1 rfl (p_mv rfl) ?_
      refine r1 rfl (p_add64 rfl rfl (by omega)) ?_
      refine r1 rfl (p_as rfl) ?_
      refine o_nil ?_
      refine ⟨(k + 1, M_), ⟨⟨rfl, (congrArg (fun z => some (Value.int .u8 z)) (by rw [if_neg (by omega)])), (congrArg (fun z => some (Value.int .u8 z)) (by rw [if_neg (by omega)])), rfl, rfl, trivial⟩, rfl⟩, ?_, ?_⟩
      · skip
        refine ⟨st, ?_, ?_⟩
        · omega
        · exact (reach_good (by omega) (by omega) (by omega) (by omega)).1 hk1
      · (try dsimp only); omega
    · skip
      try simp only [Bool.and_eq_true, Bool.or_eq_true, Bool.not_eq_true', decide_eq_true_eq, decide_eq_false_iff_not, Bool.or_eq_false_iff, Bool.and_eq_false_iff, Bool.not_eq_false'] at hc
      have hkr : k = reachF s := by
        have h1 : k ≤ reachF s := (reach_good (by omega) hi0.1 hi0.2.1 hi0.2.2).2 hi1
        by_cases h2 : k + 1 ≤ reachF s
        · have h3 := (hgs (by omega) (by omega)).1 h2
          omega
        · omega
      refine x_exit ?_
      refine x_seq ?_
      refine x_region ?_
      refine r1 rfl (p_mv rfl) ?_
      refine r1 rfl (p_mv rfl) ?_
      refine r1 rfl (p_as rfl) ?_
      refine r1 rfl (p_as rfl) ?_
      refine o_nil ?_
      refine x_ret (fin2 rfl rfl ?_)
      rw [← hkr]
      exact ⟨rfl, st.x⟩
theorem bits_mark {x : Int} (hx : BU8 x) (h : 1 ≤ leadF x) : bitsF x = x - gt marks (leadF x) ∧ 0 ≤ bitsF x ∧ bitsF x ≤ 127 := by
  have hc := lead_cases x
  have e : leadF x = 1 ∨ leadF x = 2 ∨ leadF x = 3 ∨ leadF x = 4 := by omega
  unfold bitsF
  rcases e with e | e | e | e
  · rw [e, if_neg (by omega), if_pos rfl]; simp [marks, gt]
    unfold leadF at e; omega
  · rw [e, if_neg (by omega), if_neg (by omega)]; simp [marks, gt]
    unfold leadF at e; omega
  · rw [e, if_neg (by omega), if_neg (by omega)]; simp [marks, gt]
    unfold leadF at e; omega
  · rw [e, if_neg (by omega), if_neg (by omega)]; simp [marks, gt]
    unfold leadF at e; omega
theorem lo2_ge (x : Int) : 128 ≤ lo2 x := by unfold lo2; split <;> (try split) <;> omega
theorem hi2_le (x : Int) : hi2 x ≤ 191 := by unfold hi2; split <;> (try split) <;> omega
theorem good_at {s : List Int} : ∀ (j : Nat), goodN s j = true → ∀ i : Nat, 1 ≤ i → i < j → 128 ≤ gt s (i : Int) ∧ gt s (i : Int) ≤ 191
  | 0, _, i, _, h => by omega
  | 1, _, i, _, h => by omega
  | j + 2, hg, i, h1, h2 => by
    simp only [goodN, Bool.and_eq_true] at hg
    by_cases e : i = j + 1
    · subst e
      have := hg.2
      have hh : (((j + 1 : Nat) : Int)) = (j : Int) + 1 := by omega
      rw [hh]
      have h3 := lo2_ge (gt s 0)
      have h4 := hi2_le (gt s 0)
      simp only [okB] at this
      split at this <;> simp at this <;> omega
    · exact good_at (j + 1) hg.1 i h1 (by omega)
theorem loA_nn {f : List Int} {v : Int} (hv : 0 ≤ v ∧ v ≤ 127) (hg : ∀ i : Nat, 1 ≤ i → i < f.length → 128 ≤ gt f (i : Int) ∧ gt f (i : Int) ≤ 191) : ∀ c, c + 1 ≤ f.length → c ≤ 3 → 0 ≤ loA f v c ∧ loA f v c < 128 * 64 ^ c
  | 0, _, _ => by simp [loA]; omega
  | c + 1, h, h3 => by
    have ih := loA_nn hv hg c (by omega) (by omega)
    have := hg (c + 1) (by omega) (by omega)
    have hh : (((c + 1 : Nat) : Int)) = (c : Int) + 1 := by omega
    rw [hh] at this
    simp only [loA]
    rw [if_pos (by omega), Int.pow_succ]
    generalize (64 : Int) ^ c = p at *
    omega
theorem c_value (N : Nat → Prop) (h : Hp) (hN : ∀ b, N b → b < h.size) (f : List Int) {a_f : Option Addr} {c_f : Nat} (s_f : Sl r8 N h a_f c_f f) (hf : leadF (gt f 0) = f.length ∧ 1 ≤ f.length) (hg : goodN f f.length = true) : C prog 81 [.slice a_f f.length c_f] h (fun v h' => v = .int .i32 (wholeF f) ∧ B32 (wholeF f) ∧ Ext h h') := by
  have st := St.init hN
  have ns_f := s_f.ll
  have hbd := s_f.bnd
  have hlc := lead_cases (gt f 0)
  have hb0 : BU8 (gt f 0) := gtB hbd (B := BU8) (by decide) 0
  have hbm := bits_mark hb0 (by omega)
  have hga := good_at f.length hg
  refine enter func81 rfl ntmps81 results81 rfl rfl ?_
  refine x_seq ?_
  refine x_region ?_
  refine r1 rfl (p_as rfl) ?_
  refine o_nil ?_
  refine x_seq ?_
  refine x_region ?_
  refine r1 rfl (p_mv rfl) ?_
  refine r1 rfl (p_idx runUnderlying33 sizeOf5 rfl rfl (by omega) ((s_f.gr st.gr).isi (i := 0) (by omega))) ?_
  obtain ⟨cs1, R1, C1⟩ := (s_f.gr st.gr).at_ (0) (by omega)
  obtain ⟨rfl, p1⟩ := R1
  refine r1 rfl (p_ld isAgg5 rfl (C1 0 _ rfl)) ?_
  refine o1 rfl (s_call call116 rfl (c_Bits N h st.lt (gt f 0) p1) ?_)
  rintro _ hp2 ⟨rfl, p2, x2⟩
  have st := st.ext x2
  refine r1 rfl (p_as rfl) ?_
  refine o_nil ?_
  refine x_seq ?_
  refine x_seq ?_
  refine x_region ?_
  refine r1 rfl (p_mv rfl) ?_
  have sc3 := (s_f.gr st.gr).cp
  have s3 := (s_f.gr st.gr).from_ 1 (by omega)
  refine r1 rfl (p_slfrom runUnderlying33 sizeOf5 rfl rfl (n := (f.drop 1).length) (by omega) (by rw [List.length_drop]; try omega)) ?_
  refine r1 rfl (p_len runUnderlying33 rfl) ?_
  refine r1 rfl (p_mv rfl) ?_
  refine o_nil ?_
  refine x_block ?_
  generalize hv : bitsF (gt f 0) = v at *
  refine x_loope (σ := Nat × (Nat → Prop)) (fun st_ E0 => match st_ with | (c, M_) => (13, .int .i64 (c : Int)) :: (3, .int .i64 (loA f v c)) :: E0) [(11, _), (12, _)] (fun st_ h' => match st_ with | (c, M_) => St N h (fun _ => False) M_ h' ∧ Sl r8 M_ h' (slf a_f c_f 1 1) (c_f - 1) (f.drop 1) ∧ (c + 1 ≤ f.length)) (fun st_ => match st_ with | (c, M_) => f.length - c) (0, N) ⟨⟨rfl, rfl, rfl, rfl, trivial⟩, rfl⟩ ?_ ?_
  · skip
    refine ⟨st, s3, ?_⟩
    · first | omega | assumption | (simp; done) | (simp; omega)
  rintro ⟨c, M_⟩ h' ⟨st, s3, hi0⟩
  show X _ _ _ _ (_ :: _) _ _
  have hla := loA_nn (v := v) hbm.2 (fun i h1 h2 => hga i h1 h2) c hi0 (by omega)
  have hp64 : (64 : Int) ^ c ≤ 262144 := by
    have : c ≤ 3 := by omega
    match c, this with
    | 0, _ => decide
    | 1, _ => decide
    | 2, _ => decide
    | 3, _ => decide
  have hdr : gt (f.drop 1) (c : Int) = gt f ((c : Int) + 1) := by
    unfold gt
    rw [List.getD_eq_getElem?_getD, List.getD_eq_getElem?_getD, List.getElem?_drop]
    congr 2; omega
  refine x_seq ?_
  refine x_region ?_
  refine r1 rfl (p_lss rfl rfl) ?_
  refine o_nil ?_
  refine x_seq ?_
  refine x_cond rfl (fun hc => ?_) (fun hc => ?_)
  · skip
    try simp only [Bool.and_eq_true, Bool.or_eq_true, Bool.not_eq_true', decide_eq_true_eq, decide_eq_false_iff_not, Bool.or_eq_false_iff, Bool.and_eq_false_iff, Bool.not_eq_false'] at hc
    have hcl : c + 1 < f.length := by simp at hc; omega
    have hgc := hga (c + 1) (by omega) hcl
    rw [show (((c + 1 : Nat) : Int)) = (c : Int) + 1 by omega] at hgc
    have hx64 : gt (f.drop 1) (c : Int) % 2 ^ 6 = gt f ((c : Int) + 1) - 128 := by rw [hdr]; omega
    have hb64 : 0 ≤ gt (f.drop 1) (c : Int) ∧ gt (f.drop 1) (c : Int) < 256 := by rw [hdr]; omega
    have hnn : loA f v (c + 1) = loA f v c * 2 ^ 6 + gt (f.drop 1) (c : Int) % 2 ^ 6 := by
      simp only [loA]; rw [if_pos (by omega), hx64]; omega
    refine x_skip ?_
    refine x_seq ?_
    refine x_block ?_
    refine x_seq ?_
    refine x_region ?_
    refine r1 rfl (p_idx runUnderlying33 sizeOf5 rfl rfl (by omega) (s3.isi (i := (c : Int)) (by omega))) ?_
    obtain ⟨cs4, R4, C4⟩ := s3.at_ ((c : Int)) (by omega)
    obtain ⟨rfl, p4⟩ := R4
    refine r1 rfl (p_ld isAgg5 rfl (C4 0 _ rfl)) ?_
    refine r1 rfl (p_as rfl) ?_
    refine o_nil ?_
    refine x_region ?_
    refine r1 rfl (p_mv rfl) ?_
    refine r1 rfl (p_shlw (s := 6) (r := loA f v c * 2 ^ 6) rfl rfl (by decide) (wrap_i64 (by omega))) ?_
    refine r1 rfl (p_mv rfl) ?_
    refine r1 rfl (p_and rfl rfl (by rw [show (2 : Int) ^ IntKind.u8.bits = 256 from rfl]; omega) (by decide) (and_mask 6 (by omega)) (wrap_u8 (by omega))) ?_
    refine r1 rfl (p_conv runUnderlying5 runUnderlying3 rfl (wrap_i64 (by omega))) ?_
    refine r1 rfl (p_or rfl rfl (by rw [show (2 : Int) ^ IntKind.i64.bits = 18446744073709551616 from rfl]; omega) (by rw [show (2 : Int) ^ IntKind.i64.bits = 18446744073709551616 from rfl]; omega) (or_low' 6 ⟨(loA f v c).toNat, by omega⟩ (by omega) (by omega)) (wrap_i64 (by omega))) ?_
    refine r1 rfl (p_as rfl) ?_
    refine o_nil ?_
    refine x_region ?_
    refine r1 rfl (p_add64 rfl rfl (by omega)) ?_
    refine r1 rfl (p_mv rfl) ?_
    refine o_nil ?_
    rw [← hnn]
    refine ⟨(c + 1, M_), ⟨⟨rfl, rfl, rfl, rfl, trivial⟩, rfl⟩, ?_, ?_⟩
    · skip
      refine ⟨st, s3, ?_⟩
      · first | omega | assumption | (simp; done) | (simp; omega)
    · (try dsimp only); omega
  · skip
    try simp only [Bool.and_eq_true, Bool.or_eq_true, Bool.not_eq_true', decide_eq_true_eq, decide_eq_false_iff_not, Bool.or_eq_false_iff, Bool.and_eq_false_iff, Bool.not_eq_false'] at hc
    have hcl : f.length = c + 1 := by simp at hc; omega
    have hw : wholeF f = loA f v c := by unfold wholeF; rw [← hf.1, ← hbm.1, hcl]; rfl
    have hlt : loA f v c < 134217728 := by
      have : c ≤ 3 := by omega
      match c, this, hla with
      | 0, _, hla => omega
      | 1, _, hla => omega
      | 2, _, hla => omega
      | 3, _, hla => omega
    refine x_exit ?_
    refine x_seq ?_
    refine x_region ?_
    refine r1 rfl (p_mv rfl) ?_
    refine r1 rfl (p_conv runUnderlying3 runUnderlying21 rfl (wrap_i32 (by omega))) ?_
    refine r1 rfl (p_as rfl) ?_
    refine o_nil ?_
    refine x_ret (fin1 rfl ?_)
    rw [hw]
    exact ⟨rfl, (by first | omega | assumption | (dsimp only; omega)), st.x⟩
theorem part_good {s : List Int} (hs : 1 ≤ s.length) (h0 : ¬ reachF s = 0) (h1 : ¬ (reachF s : Int) < leadF (gt s 0)) : leadF (gt (s.take (reachF s)) 0) = (s.take (reachF s)).length ∧ 1 ≤ (s.take (reachF s)).length ∧ goodN (s.take (reachF s)) (s.take (reachF s)).length = true := by
  have hr := reach_le s (by intro e; rw [e] at hs; simp at hs)
  have hl : (s.take (reachF s)).length = reachF s := by rw [List.length_take]; omega
  rw [hl, gt_take (by omega) (by omega), good_take _ _ _ (Nat.le_refl _)]
  refine ⟨by omega, by omega, ?_⟩
  by_cases h2 : 2 ≤ leadF (gt s 0)
  · exact (reach_good h2 (by omega) (by omega) (by omega)).1 (Nat.le_refl _)
  · have : reachF s = 1 := by omega
    rw [this]; rfl
theorem pl103 : ∀ w, ((#[{ name := "R", type := 21, offset := 0, embedded := false, tag := "", pkgPath := "", byteOffset := 0 }, { name := "At", type := 3, offset := 1, embedded := false, tag := "", pkgPath := "", byteOffset := 8 }, { name := "Len", type := 3, offset := 2, embedded := false, tag := "", pkgPath := "", byteOffset := 16 }, { name := "Known", type := 3, offset := 3, embedded := false, tag := "", pkgPath := "", byteOffset := 24 }, { name := "Bad", type := 4, offset := 4, embedded := false, tag := "", pkgPath := "", byteOffset := 32 }] : Array Field).mapM (fun f => do return (f.offset, ← sizeOf f.type)) : Sem (Array (Nat × Nat))).run prog w = .ok (([(0, 1), (1, 1), (2, 1), (3, 1), (4, 1)] : List (Nat × Nat))).toArray w := fun _ => by kernel_rfl
theorem c_part (N : Nat → Prop) (h : Hp) (hN : ∀ b, N b → b < h.size) (s : List Int) (at_ : Int) {a_s : Option Addr} {c_s : Nat} (s_s : Sl r8 N h a_s c_s s) (hs : 1 ≤ s.length) (hat : 0 ≤ at_ ∧ at_ + s.length ≤ 9000000000000000000) : C prog 50 [.slice a_s s.length c_s, .int .i64 at_] h (fun v h' => v = .agg #[.int .i32 ((partF s at_).r), .int .i64 ((partF s at_).at_), .int .i64 ((partF s at_).len), .int .i64 ((partF s at_).known), .bool ((partF s at_).bad)] ∧ B32 ((partF s at_).r) ∧ B64 ((partF s at_).at_) ∧ B64 ((partF s at_).len) ∧ B64 ((partF s at_).known) ∧ Ext h h') := by
  have st := St.init hN
  have ns_s := s_s.ll
  have hbd := s_s.bnd
  have hlc := lead_cases (gt s 0)
  have hne : s ≠ [] := by intro e; rw [e] at hs; simp at hs
  have hrl := reach_le s hne
  have hpb := part_bd (at_ := at_) hbd hne hat
  refine enter func50 rfl ntmps50 results50 rfl rfl ?_
  refine x_seq ?_
  refine x_region ?_
  refine o1 rfl (s_al zeroValue103 rfl ?_)
  intro b4 hb1 n1
  obtain ⟨M1, nm1⟩ := nm (M := N) n1
  have gb4 : h.size ≤ b4 := n1.ge st.kp
  have st := st.new n1 nm1
  have lb4 := n1.bl
  have mb4 := nm1.mem
  refine o_nil ?_
  refine x_seq ?_
  refine x_region ?_
  refine r1 rfl (p_mv rfl) ?_
  refine o1 rfl (s_call call51 rfl (c_reach M1 hb1 st.lt s (s_s.gr st.gr) (by first | omega | (simp only [List.length_append, List.length_cons, List.length_nil, List.length_map, List.length_take, List.length_drop, List.length_replicate]; omega))) ?_)
  rintro _ hp2 ⟨rfl, x2⟩
  have lb4 := lb4.lift (x2)
  have st := st.ext x2
  refine r1 rfl (p_mv rfl) ?_
  refine r1 rfl (p_ex rfl rfl) ?_
  refine r1 rfl (p_ex rfl rfl) ?_
  refine r1 rfl (p_as rfl) ?_
  refine r1 rfl (p_as rfl) ?_
  refine o_nil ?_
  refine x_seq ?_
  refine x_block ?_
  refine x_seq ?_
  refine x_region ?_
  refine r1 rfl (p_mv rfl) ?_
  refine r1 rfl (p_eql rfl rfl) ?_
  refine r1 rfl (p_as rfl) ?_
  refine o_nil ?_
  refine x_cond rfl (fun h0 => ?_) (fun h0 => ?_)
  · skip
    try simp only [Bool.and_eq_true, Bool.or_eq_true, Bool.not_eq_true', decide_eq_true_eq, decide_eq_false_iff_not, Bool.or_eq_false_iff, Bool.and_eq_false_iff, Bool.not_eq_false'] at h0
    refine x_seq ?_
    refine x_region ?_
    refine r1 rfl (p_mv rfl) ?_
    refine r1 rfl (p_mv rfl) ?_
    refine r1 rfl (p_add64 rfl rfl (by omega)) ?_
    refine r1 rfl (p_bs runUnderlying103 zeroValue103 pl103 rfl) ?_
    show O _ _ _ _ _ ((_, .agg #[_, _, _, _, _]) :: _) _ _
    refine o0 (s_sta rfl rfl sizeOf103 rfl lb4 rfl ?_)
    intro hu3 u3
    have lb4 := u3.bl
    have st := st.upd u3 (.inl gb4)
    replace lb4 : Bl hu3 b4 [_, _, _, _, _] _ := lb4
    refine o_nil ?_
    refine x_ret (fin1 (ret_cell isAgg103 rfl (lb4.gets rfl) sizeOf103) ?_)
    have e : partF s at_ = ⟨65533, at_, 1, at_ + 1, true⟩ := by unfold partF; rw [if_pos (by omega)]
    rw [e] at hpb ⊢
    exact ⟨rfl, (by first | omega | assumption | (dsimp only; omega)), (by first | omega | assumption | (dsimp only; omega)), (by first | omega | assumption | (dsimp only; omega)), (by first | omega | assumption | (dsimp only; omega)), st.x⟩
  · skip
    try simp only [Bool.and_eq_true, Bool.or_eq_true, Bool.not_eq_true', decide_eq_true_eq, decide_eq_false_iff_not, Bool.or_eq_false_iff, Bool.and_eq_false_iff, Bool.not_eq_false'] at h0
    refine x_seq ?_
    refine x_region ?_
    refine r1 rfl (p_mv rfl) ?_
    refine r1 rfl (p_mv rfl) ?_
    refine r1 rfl (p_lss rfl rfl) ?_
    refine r1 rfl (p_as rfl) ?_
    refine o_nil ?_
    refine x_cond rfl (fun h1 => ?_) (fun h1 => ?_)
    · skip
      try simp only [Bool.and_eq_true, Bool.or_eq_true, Bool.not_eq_true', decide_eq_true_eq, decide_eq_false_iff_not, Bool.or_eq_false_iff, Bool.and_eq_false_iff, Bool.not_eq_false'] at h1
      refine x_seq ?_
      refine x_region ?_
      refine r1 rfl (p_mv rfl) ?_
      refine r1 rfl (p_mv rfl) ?_
      refine r1 rfl (p_mv rfl) ?_
      refine r1 rfl (p_mv rfl) ?_
      refine r1 rfl (p_add64 rfl rfl (by omega)) ?_
      refine r1 rfl (p_mv rfl) ?_
      refine r1 rfl (p_len runUnderlying33 rfl) ?_
      refine r1 rfl (p_min2 rfl rfl) ?_
      refine r1 rfl (p_add64 rfl rfl (by omega)) ?_
      refine r1 rfl (p_bs runUnderlying103 zeroValue103 pl103 rfl) ?_
      show O _ _ _ _ _ ((_, .agg #[_, _, _, _, _]) :: _) _ _
      refine o0 (s_sta rfl rfl sizeOf103 rfl lb4 rfl ?_)
      intro hu4 u4
      have lb4 := u4.bl
      have st := st.upd u4 (.inl gb4)
      replace lb4 : Bl hu4 b4 [_, _, _, _, _] _ := lb4
      refine o_nil ?_
      refine x_ret (fin1 (ret_cell isAgg103 rfl (lb4.gets rfl) sizeOf103) ?_)
      have e : partF s at_ = ⟨65533, at_, reachF s, at_ + min ((reachF s : Int) + 1) (s.length : Nat), true⟩ := by unfold partF; rw [if_neg (by omega), if_pos h1]
      rw [e] at hpb ⊢
      exact ⟨rfl, (by first | omega | assumption | (dsimp only; omega)), (by first | omega | assumption | (dsimp only; omega)), (by first | omega | assumption | (dsimp only; omega)), (by first | omega | assumption | (dsimp only; omega)), st.x⟩
    · skip
      try simp only [Bool.and_eq_true, Bool.or_eq_true, Bool.not_eq_true', decide_eq_true_eq, decide_eq_false_iff_not, Bool.or_eq_false_iff, Bool.and_eq_false_iff, Bool.not_eq_false'] at h1
      have hpg := part_good hs (by omega) h1
      refine x_skip ?_
      refine x_seq ?_
      refine x_region ?_
      refine r1 rfl (p_mv rfl) ?_
      refine r1 rfl (p_mv rfl) ?_
      have sc5 := (s_s.gr st.gr).cp
      have s5 := (s_s.gr st.gr).to ((reachF s : Int)).toNat (by omega)
      refine r1 rfl (p_slto runUnderlying33 sizeOf5 rfl rfl (n := (s.take ((reachF s : Int)).toNat).length) (by omega) (by rw [List.length_take]; omega)) ?_
      refine o1 rfl (s_call call81 rfl (c_value M1 hp2 st.lt (s.take ((reachF s : Int)).toNat) s5 ⟨hpg.1, hpg.2.1⟩ hpg.2.2) ?_)
      rintro _ hp6 ⟨rfl, p6, x6⟩
      have lb4 := lb4.lift (x6)
      have st := st.ext x6
      refine r1 rfl (p_mv rfl) ?_
      refine r1 rfl (p_mv rfl) ?_
      refine r1 rfl (p_mv rfl) ?_
      refine r1 rfl (p_mv rfl) ?_
      refine r1 rfl (p_add64 rfl rfl (by omega)) ?_
      refine r1 rfl (p_bs runUnderlying103 zeroValue103 pl103 rfl) ?_
      show O _ _ _ _ _ ((_, .agg #[_, _, _, _, _]) :: _) _ _
      refine o0 (s_sta rfl rfl sizeOf103 rfl lb4 rfl ?_)
      intro hu7 u7
      have lb4 := u7.bl
      have st := st.upd u7 (.inl gb4)
      replace lb4 : Bl hu7 b4 [_, _, _, _, _] _ := lb4
      refine o_nil ?_
      refine x_ret (fin1 (ret_cell isAgg103 rfl (lb4.gets rfl) sizeOf103) ?_)
      have e : partF s at_ = ⟨wholeF (s.take (reachF s)), at_, reachF s, at_ + reachF s, false⟩ := by unfold partF; rw [if_neg (by omega), if_neg h1]
      rw [e] at hpb ⊢
      exact ⟨rfl, p6, (by first | omega | assumption | (dsimp only; omega)), (by first | omega | assumption | (dsimp only; omega)), (by first | omega | assumption | (dsimp only; omega)), st.x⟩
theorem c_All (N : Nat → Prop) (h : Hp) (hN : ∀ b, N b → b < h.size) (b : List Int) {a_b : Option Addr} {c_b : Nat} (s_b : Sl r8 N h a_b c_b b) (hl : b.length ≤ 100000) : C prog 28 [.slice a_b b.length c_b] h (fun v h' => ∃ (ar : Option Addr) (cr : Nat), v = .slice ar (partsW b 0).length cr ∧ Sl rGotT N h' ar cr (partsW b 0) ∧ Ext h h') := by
  have st := St.init hN
  have ns_b := s_b.ll
  have hbd := s_b.bnd
  refine enter func28 rfl ntmps28 results28 rfl rfl ?_
  refine x_seq ?_
  refine x_region ?_
  refine r1 rfl (p_as rfl) ?_
  refine o_nil ?_
  refine x_seq ?_
  refine x_region ?_
  refine r1 rfl (p_as rfl) ?_
  refine o_nil ?_
  refine x_seq ?_
  refine x_seq ?_
  refine x_region ?_
  refine r1 rfl (p_as rfl) ?_
  refine o_nil ?_
  refine x_block ?_
  refine x_loope (σ := Nat × (List GotT) × (Option Addr) × Nat × (Nat → Prop)) (fun st_ E0 => match st_ with | (at_, out, aL3, cL3, M_) => (4, .int .i64 (at_ : Int)) :: (3, .slice aL3 out.length cL3) :: E0) [(0, _)] (fun st_ h' => match st_ with | (at_, out, aL3, cL3, M_) => St N h (fun _ => False) M_ h' ∧ Ow h.size 103 rGotT M_ h' aL3 cL3 out ∧ (at_ ≤ b.length) ∧ (out ++ partsW (b.drop at_) at_ = partsW b 0) ∧ (out.length ≤ at_)) (fun st_ => match st_ with | (at_, out, aL3, cL3, M_) => b.length - at_) (0, [], none, 0, N) ⟨⟨rfl, rfl, rfl, trivial⟩, rfl⟩ ?_ ?_
  · skip
    refine ⟨st, (Ow.nil (B := h.size) (T := 103) (r := rGotT) (M := N) (h := h) (a := none)), ?_, ?_, ?_⟩
    · omega
    · simp
    · simp
  rintro ⟨at_, out, aL3, cL3, M_⟩ h' ⟨st, wL3, hi0, hi1, hi2⟩
  show X _ _ _ _ (_ :: _) _ _
  have nwL3 := wL3.len'
  refine x_seq ?_
  refine x_seq ?_
  refine x_region ?_
  refine r1 rfl (p_mv rfl) ?_
  refine r1 rfl (p_mv rfl) ?_
  refine r1 rfl (p_len runUnderlying33 rfl) ?_
  refine r1 rfl (p_lss rfl rfl) ?_
  refine o_nil ?_
  refine x_cond rfl (fun hc => ?_) (fun hc => ?_)
  · skip
    try simp only [Bool.and_eq_true, Bool.or_eq_true, Bool.not_eq_true', decide_eq_true_eq, decide_eq_false_iff_not, Bool.or_eq_false_iff, Bool.and_eq_false_iff, Bool.not_eq_false'] at hc
    have hne : b.drop at_ ≠ [] := by intro e; have := congrArg List.length e; rw [List.length_drop] at this; simp at this; omega
    have hbs : ∀ x ∈ b.drop at_, BU8 x := fun x hx => hbd x (List.mem_of_mem_drop hx)
    have hrl := reach_le _ hne
    have hdl : (b.drop at_).length = b.length - at_ := List.length_drop
    have hpb := part_bd (at_ := at_) hbs hne (by omega)
    have hpl := part_len (b.drop at_) at_
    have hst : stepN (b.drop at_) ≤ b.length - at_ ∧ 1 ≤ stepN (b.drop at_) := by unfold stepN; omega
    have e0 : (at_ : Int).toNat = at_ := by omega
    refine x_skip ?_
    refine x_block ?_
    refine x_seq ?_
    refine x_region ?_
    refine r1 rfl (p_mv rfl) ?_
    refine r1 rfl (p_mv rfl) ?_
    have sc1 := (s_b.gr st.gr).cp
    have s1 := (s_b.gr st.gr).from_ ((at_ : Int)).toNat (by omega)
    refine r1 rfl (p_slfrom runUnderlying33 sizeOf5 rfl rfl (n := (b.drop ((at_ : Int)).toNat).length) (by omega) (by rw [List.length_drop]; try omega)) ?_
    refine r1 rfl (p_mv rfl) ?_
    refine o1 rfl (s_call call50 rfl (c_part M_ h' st.lt (b.drop ((at_ : Int)).toNat) (at_ : Int) s1 (by rw [e0]; omega) (by rw [e0]; omega)) ?_)
    rintro _ hp2 ⟨rfl, p2_0, p2_1, p2_2, p2_3, x2⟩
    have wL3 := wL3.ext x2
    have st := st.ext x2
    refine o1 rfl (s_al zeroValue103 rfl ?_)
    intro b5 hb3 n3
    obtain ⟨M3, nm3⟩ := nm (M := M_) n3
    have gb5 : h.size ≤ b5 := n3.ge st.kp
    have nob5_wL3 : ¬ Ob aL3 cL3 b5 := fun hh => by have := wL3.lt _ hh; have := n3.at_; omega
    have wL3 := wL3.kp (nm3.gr n3) nm3.sub (n3.ext) fun _ _ hh => hh
    have st := st.new n3 nm3
    have lb5 := n3.bl
    have mb5 := nm3.mem
    refine o0 (s_sta rfl rfl sizeOf103 rfl lb5 rfl ?_)
    intro hu4 u4
    have wL3 := wL3.upd u4 mb5 nob5_wL3
    have lb5 := u4.bl
    have st := st.upd u4 (.inl gb5)
    replace lb5 : Bl hu4 b5 [_, _, _, _, _] _ := lb5
    refine o_nil ?_
    refine x_seq ?_
    simp only [e0] at *
    have e6 : (at_ : Int) + (partF (b.drop at_) at_).len = ((at_ + stepN (b.drop at_) : Nat) : Int) := by rw [hpl]; omega
    refine x_region ?_
    refine r1 rfl (p_mv rfl) ?_
    refine r1 rfl (p_lda isAgg103 rfl (lb5.gets rfl) sizeOf103) ?_
    refine o1 rfl (s_bs runUnderlying72 sizeOf103 zeroValue103 rfl rfl rfl rfl rfl ?_)
    intro bb5 hb5 n5
    have nmb5 : ¬ M3 bb5 := fun hh => by have := st.lt _ hh; have := n5.at_; omega
    have wL3 := wL3.ext n5.ext
    have lb5 := lb5.lift (n5.ext)
    have st := st.ext n5.ext
    have s5 : Sl rGotT M3 hb5 (some ⟨bb5, 0, none⟩) 1 ([(partF (b.drop ((at_ : Int)).toNat) (at_ : Int))] : List GotT) := n5.sl nmb5 rfl (els_cons (by exact ⟨rfl, p2_0, p2_1, p2_2, p2_3⟩) els_nil)
    refine o1 rfl (s_app runUnderlying72 runUnderlying72 sizeOf103 typeInfo103 zeroValue103 rfl rfl rfl rfl rfl rfl wL3 s5 (Nat.le_trans st.kp.size (Nat.le_refl _)) (by first | omega | (simp only [List.length_append, List.length_cons, List.length_nil]; omega)) ?_)
    intro a7 c7 hp7 ap7 wf7
    obtain ⟨M7, am7⟩ := am ap7 wL3.mem
    have now7_b5 : ¬ Ob a7 c7 b5 := fun hh => nob5_wL3 (ap7.old _ lb5.lt hh)
    have w7_ := wf7 M7 am7
    have lb5 := ap7.kp.bl nob5_wL3 lb5
    have mb5 := am7.sub _ mb5
    have st := st.app ap7 am7 (fun b hb => .inl (wL3.ge b hb))
    have w7 := w7_
    refine r1 rfl (p_as rfl) ?_
    refine o_nil ?_
    refine x_region ?_
    refine r1 rfl (p_mv rfl) ?_
    refine r1 rfl (p_fld runUnderlying103 rfl sizeOf3 (by decide) rfl rfl) ?_
    refine r1 rfl (p_ld isAgg3 rfl (lb5.get rfl)) ?_
    refine r1 rfl (p_add64 rfl rfl (by omega)) ?_
    refine r1 rfl (p_as rfl) ?_
    refine o_nil ?_
    refine ⟨(at_ + stepN (b.drop at_), out ++ [partF (b.drop at_) at_], a7, c7, M7), ⟨⟨(congrArg (fun z => some (Value.int .i64 z)) e6), rfl, rfl, trivial⟩, rfl⟩, ?_, ?_⟩
    · skip
      refine ⟨st, w7, ?_, ?_, ?_⟩
      · omega
      · have : partsW (b.drop at_) at_ = partF (b.drop at_) at_ :: partsW ((b.drop at_).drop (stepN (b.drop at_))) (at_ + stepN (b.drop at_)) := by
          rw [partsW, dif_neg hne]
        rw [this] at hi1
        rw [List.append_assoc, List.singleton_append, ← hi1, List.drop_drop]
        rfl
      · simp; omega
    · (try dsimp only); omega
  · skip
    try simp only [Bool.and_eq_true, Bool.or_eq_true, Bool.not_eq_true', decide_eq_true_eq, decide_eq_false_iff_not, Bool.or_eq_false_iff, Bool.and_eq_false_iff, Bool.not_eq_false'] at hc
    have e0 : b.drop at_ = [] := List.drop_of_length_le (by omega)
    rw [e0, partsW, dif_pos rfl, List.append_nil] at hi1
    have te8 : out = (partsW b 0) := hi1
    rw [te8] at wL3
    try rw [te8]
    refine x_exit ?_
    refine x_seq ?_
    refine x_region ?_
    refine r1 rfl (p_mv rfl) ?_
    refine r1 rfl (p_as rfl) ?_
    refine o_nil ?_
    refine x_ret (fin1 rfl ?_)
    exact ⟨_, _, rfl, (wL3.out st hN), st.x⟩
end Go.Proofs
