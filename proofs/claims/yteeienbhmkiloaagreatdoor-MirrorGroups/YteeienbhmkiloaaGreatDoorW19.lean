import Derived.Test.YteeienbhmkiloaaGreatDoorW18
set_option linter.unusedSimpArgs false
set_option linter.unusedVariables false
namespace Go.Proofs
open Go.Lx Tryz

def greatAt (l : List OpT) (i : Nat) : Bool := decide (600 < (bytesN (l.take (i + 1)) : Int)) || ((decide ((gt l (i : Int)).kind = 13) && decide (60 < (gt l (i : Int)).a)) && decide (60 < (gt l (i : Int)).b))
def greatF (l : List OpT) : Bool := (List.range (min l.length 60)).any (greatAt l) || decide (50 < (l.length : Int))
theorem great_no {l : List OpT} (h : greatF l = false) : l.length ≤ 50 ∧ bytesN l ≤ 600 := by
  unfold greatF at h
  simp only [Bool.or_eq_false_iff, decide_eq_false_iff_not] at h
  have h1 : l.length ≤ 50 := by omega
  refine ⟨h1, ?_⟩
  by_cases h0 : l = []
  · rw [h0]; simp [bytesN]
  · have hl := List.length_pos_iff.2 h0
    have := List.any_eq_false.1 h.1 (l.length - 1) (List.mem_range.2 (by omega))
    simp only [greatAt, Bool.or_eq_true, decide_eq_true_eq, not_or] at this
    rw [show l.length - 1 + 1 = l.length by omega, List.take_length] at this
    omega
theorem c_Great (N : Nat → Prop) (h : Hp) (hN : ∀ b, N b → b < h.size) (l : List OpT) {a_l : Option Addr} {c_l : Nat} (s_l : Sl rOpT N h a_l c_l l) : C prog 5 [.slice a_l l.length c_l] h (fun v h' => v = .bool (greatF l) ∧ Ext h h') := by
  have st := St.init hN
  have ns_l := s_l.ll
  refine enter func5 rfl ntmps5 results5 rfl rfl ?_
  refine x_seq ?_
  refine x_region ?_
  refine r1 rfl (p_as rfl) ?_
  refine o_nil ?_
  refine x_seq ?_
  refine x_region ?_
  refine r1 rfl (p_as rfl) ?_
  refine o_nil ?_
  refine x_seq ?_
  refine x_seq ?_
  refine x_region ?_
  refine r1 rfl (p_as rfl) ?_
  refine o_nil ?_
  refine x_block ?_
  refine x_loope (σ := Nat × (Nat → Prop)) (fun st_ E0 => match st_ with | (i, M_) => (4, .int .i64 (i : Int)) :: (3, .int .i64 (bytesN (l.take i) : Int)) :: E0) [(0, _)] (fun st_ h' => match st_ with | (i, M_) => St N h (fun _ => False) M_ h' ∧ (i ≤ l.length ∧ i ≤ 60) ∧ (∀ j, j < i → greatAt l j = false) ∧ (bytesN (l.take i) ≤ 600)) (fun st_ => match st_ with | (i, M_) => l.length - i) (0, N) ⟨⟨rfl, rfl, rfl, trivial⟩, rfl⟩ ?_ ?_
  · skip
    refine ⟨st, ?_, ?_, ?_⟩
    · omega
    · intro j hj; omega
    · simp [bytesN]
  rintro ⟨i, M_⟩ h' ⟨st, hi0, hi1, hi2⟩
  show X _ _ _ _ (_ :: _) _ _
  refine x_seq ?_
  refine x_seq ?_
  refine x_region ?_
  refine r1 rfl (p_mv rfl) ?_
  refine r1 rfl (p_mv rfl) ?_
  refine r1 rfl (p_len runUnderlying22 rfl) ?_
  refine r1 rfl (p_lss rfl rfl) ?_
  refine r1 rfl (p_mv rfl) ?_
  apply o_and 3 (dj := 9) (d := 12) rfl
  · intro hg3_5
    have hg3_5_ := hg3_5
    try simp only [Bool.and_eq_true, Bool.or_eq_true, Bool.not_eq_true', decide_eq_true_eq, decide_eq_false_iff_not, Bool.or_eq_false_iff, Bool.and_eq_false_iff] at hg3_5_
    refine r1h rfl rfl rfl hg3_5 (p_mv rfl) ?_
    refine r1h rfl rfl rfl hg3_5 (p_lss rfl rfl) ?_
    refine r1 rfl (p_pickt hg3_5 rfl rfl rfl) ?_
    exact o_nil ⟨rfl, rfl, by repeat (first | exact le_r _ | refine le_c rfl ?_)⟩
  · intro hg3_5
    refine o1n rfl rfl rfl hg3_5 ?_
    refine o1n rfl rfl rfl hg3_5 ?_
    refine r1 rfl (p_pickf hg3_5 rfl rfl rfl) ?_
    exact o_nil ⟨rfl, rfl, by repeat (first | exact le_r _ | refine le_c rfl ?_)⟩
  refine o_nil ?_
  refine x_cond rfl (fun hc => ?_) (fun hc => ?_)
  · skip
    try simp only [Bool.and_eq_true, Bool.or_eq_true, Bool.not_eq_true', decide_eq_true_eq, decide_eq_false_iff_not, Bool.or_eq_false_iff, Bool.and_eq_false_iff, Bool.not_eq_false'] at hc
    have hlt : i < l.length := by omega
    have e1 : bytesN (l.take (i + 1)) = bytesN (l.take i) + (gt l (i : Int)).bytes.length := by rw [gt_lt hlt, List.take_succ_eq_append_getElem hlt, bytesN_snoc]
    refine x_skip ?_
    refine x_seq ?_
    refine x_block ?_
    refine x_seq ?_
    refine x_region ?_
    refine r1 rfl (p_mv rfl) ?_
    refine r1 rfl (p_mv rfl) ?_
    refine r1 rfl (p_mv rfl) ?_
    refine r1 rfl (p_idx runUnderlying22 sizeOf38 rfl rfl (by omega) ((s_l.gr st.gr).isi (i := (i : Int)) (by omega))) ?_
    refine r1 rfl (p_fld runUnderlying38 rfl sizeOf33 (by decide) rfl rfl) ?_
    obtain ⟨cs1, R1, C1⟩ := (s_l.gr st.gr).at_ ((i : Int)) (by omega)
    obtain ⟨a1_3, c1_3, rfl, p1_0, p1_1, p1_2, s1_3⟩ := R1
    have ns1_3 := s1_3.ll
    refine r1 rfl (p_ld isAgg33 rfl (C1 3 _ rfl)) ?_
    refine r1 rfl (p_len runUnderlying33 rfl) ?_
    refine r1 rfl (p_add64 rfl rfl (by omega)) ?_
    refine r1 rfl (p_as rfl) ?_
    refine o_nil ?_
    refine x_seq ?_
    have te2 : (bytesN (l.take i) : Int) + ((((gt l (i : Int)).bytes).length : Nat) : Int) = (bytesN (l.take (i + 1)) : Int) := (by rw [e1]; omega)
    try rw [te2]
    refine x_region ?_
    refine r1 rfl (p_mv rfl) ?_
    refine r1 rfl (p_gtr rfl rfl) ?_
    refine r1 rfl (p_mv rfl) ?_
    apply o_or 23 (dj := 25) (d := 48) rfl
    · intro hg6_3
      have hg6_3_ := hg6_3
      try simp only [Bool.and_eq_true, Bool.or_eq_true, Bool.not_eq_true', decide_eq_true_eq, decide_eq_false_iff_not, Bool.or_eq_false_iff, Bool.and_eq_false_iff] at hg6_3_
      refine r1h rfl rfl rfl hg6_3 (p_mv rfl) ?_
      refine r1h rfl rfl rfl hg6_3 (p_mv rfl) ?_
      refine r1h rfl rfl rfl hg6_3 (p_idx runUnderlying22 sizeOf38 rfl rfl (by omega) ((s_l.gr st.gr).isi (i := (i : Int)) (by omega))) ?_
      refine r1h rfl rfl rfl hg6_3 (p_fld runUnderlying38 rfl sizeOf3 (by decide) rfl rfl) ?_
      refine r1h rfl rfl rfl hg6_3 (p_ld isAgg3 rfl (C1 0 _ rfl)) ?_
      refine r1h rfl rfl rfl hg6_3 (p_eql rfl rfl) ?_
      refine r1h rfl rfl rfl hg6_3 (p_mv rfl) ?_
      apply o_and 7 (dj := 32) (d := 39) rfl
      · intro hg6_10
        have hg6_10_ := hg6_10
        try simp only [Bool.and_eq_true, Bool.or_eq_true, Bool.not_eq_true', decide_eq_true_eq, decide_eq_false_iff_not, Bool.or_eq_false_iff, Bool.and_eq_false_iff] at hg6_10_
        refine r1h rfl rfl rfl hg6_10 (p_mv rfl) ?_
        refine r1h rfl rfl rfl hg6_10 (p_mv rfl) ?_
        refine r1h rfl rfl rfl hg6_10 (p_idx runUnderlying22 sizeOf38 rfl rfl (by omega) ((s_l.gr st.gr).isi (i := (i : Int)) (by omega))) ?_
        refine r1h rfl rfl rfl hg6_10 (p_fld runUnderlying38 rfl sizeOf3 (by decide) rfl rfl) ?_
        refine r1h rfl rfl rfl hg6_10 (p_ld isAgg3 rfl (C1 1 _ rfl)) ?_
        refine r1h rfl rfl rfl hg6_10 (p_gtr rfl rfl) ?_
        refine r1h rfl rfl rfl hg6_3 (p_pickt hg6_10 rfl rfl rfl) ?_
        exact o_nil ⟨rfl, rfl, by repeat (first | exact le_r _ | refine le_c rfl ?_)⟩
      · intro hg6_10
        refine o1n rfl rfl rfl hg6_10 ?_
        refine o1n rfl rfl rfl hg6_10 ?_
        refine o1n rfl rfl rfl hg6_10 ?_
        refine o1n rfl rfl rfl hg6_10 ?_
        refine o1n rfl rfl rfl hg6_10 ?_
        refine o1n rfl rfl rfl hg6_10 ?_
        refine r1h rfl rfl rfl hg6_3 (p_pickf hg6_10 rfl rfl rfl) ?_
        exact o_nil ⟨rfl, rfl, by repeat (first | exact le_r _ | refine le_c rfl ?_)⟩
      refine r1h rfl rfl rfl hg6_3 (p_mv rfl) ?_
      apply o_and 7 (dj := 40) (d := 47) rfl
      · intro hg6_18
        have hg6_18_ := hg6_18
        try simp only [Bool.and_eq_true, Bool.or_eq_true, Bool.not_eq_true', decide_eq_true_eq, decide_eq_false_iff_not, Bool.or_eq_false_iff, Bool.and_eq_false_iff] at hg6_18_
        refine r1h rfl rfl rfl hg6_18 (p_mv rfl) ?_
        refine r1h rfl rfl rfl hg6_18 (p_mv rfl) ?_
        refine r1h rfl rfl rfl hg6_18 (p_idx runUnderlying22 sizeOf38 rfl rfl (by omega) ((s_l.gr st.gr).isi (i := (i : Int)) (by omega))) ?_
        refine r1h rfl rfl rfl hg6_18 (p_fld runUnderlying38 rfl sizeOf3 (by decide) rfl rfl) ?_
        refine r1h rfl rfl rfl hg6_18 (p_ld isAgg3 rfl (C1 2 _ rfl)) ?_
        refine r1h rfl rfl rfl hg6_18 (p_gtr rfl rfl) ?_
        refine r1h rfl rfl rfl hg6_3 (p_pickt hg6_18 rfl rfl rfl) ?_
        exact o_nil ⟨rfl, rfl, by repeat (first | exact le_r _ | refine le_c rfl ?_)⟩
      · intro hg6_18
        refine o1n rfl rfl rfl hg6_18 ?_
        refine o1n rfl rfl rfl hg6_18 ?_
        refine o1n rfl rfl rfl hg6_18 ?_
        refine o1n rfl rfl rfl hg6_18 ?_
        refine o1n rfl rfl rfl hg6_18 ?_
        refine o1n rfl rfl rfl hg6_18 ?_
        refine r1h rfl rfl rfl hg6_3 (p_pickf hg6_18 rfl rfl rfl) ?_
        exact o_nil ⟨rfl, rfl, by repeat (first | exact le_r _ | refine le_c rfl ?_)⟩
      refine r1 rfl (p_pickf hg6_3 rfl rfl rfl) ?_
      exact o_nil ⟨rfl, rfl, by repeat (first | exact le_r _ | refine le_c rfl ?_)⟩
    · intro hg6_3
      refine o1n rfl rfl rfl hg6_3 ?_
      refine o1n rfl rfl rfl hg6_3 ?_
      refine o1n rfl rfl rfl hg6_3 ?_
      refine o1n rfl rfl rfl hg6_3 ?_
      refine o1n rfl rfl rfl hg6_3 ?_
      refine o1n rfl rfl rfl hg6_3 ?_
      refine o1n rfl rfl rfl hg6_3 ?_
      refine o1u rfl rfl rfl ?_
      refine o1u rfl rfl rfl ?_
      refine o1u rfl rfl rfl ?_
      refine o1u rfl rfl rfl ?_
      refine o1u rfl rfl rfl ?_
      refine o1u rfl rfl rfl ?_
      refine o1n rfl rfl rfl hg6_3 ?_
      refine o1n rfl rfl rfl hg6_3 ?_
      refine o1u rfl rfl rfl ?_
      refine o1u rfl rfl rfl ?_
      refine o1u rfl rfl rfl ?_
      refine o1u rfl rfl rfl ?_
      refine o1u rfl rfl rfl ?_
      refine o1u rfl rfl rfl ?_
      refine o1n rfl rfl rfl hg6_3 ?_
      refine r1 rfl (p_pickt hg6_3 rfl rfl rfl) ?_
      exact o_nil ⟨rfl, rfl, by repeat (first | exact le_r _ | refine le_c rfl ?_)⟩
    refine o_nil ?_
    refine x_cond rfl (fun hg => ?_) (fun hg => ?_)
    · skip
      try simp only [Bool.and_eq_true, Bool.or_eq_true, Bool.not_eq_true', decide_eq_true_eq, decide_eq_false_iff_not, Bool.or_eq_false_iff, Bool.and_eq_false_iff, Bool.not_eq_false'] at hg
      have hga : greatAt l i = true := by
        unfold greatAt
        simp only [Bool.or_eq_true, Bool.and_eq_true, decide_eq_true_eq]
        omega
      refine x_seq ?_
      refine x_region ?_
      refine r1 rfl (p_as rfl) ?_
      refine o_nil ?_
      refine x_ret (fin1 rfl ?_)
      have hgf : greatF l = true := by
        unfold greatF
        rw [Bool.or_eq_true]
        exact .inl (List.any_eq_true.2 ⟨i, List.mem_range.2 (by omega), hga⟩)
      rw [hgf]
      exact ⟨rfl, st.x⟩
    · skip
      try simp only [Bool.and_eq_true, Bool.or_eq_true, Bool.not_eq_true', decide_eq_true_eq, decide_eq_false_iff_not, Bool.or_eq_false_iff, Bool.and_eq_false_iff, Bool.not_eq_false'] at hg
      have hga : greatAt l i = false := by
        unfold greatAt
        simp only [Bool.or_eq_false_iff, Bool.and_eq_false_iff, decide_eq_false_iff_not]
        omega
      refine x_skip ?_
      refine x_region ?_
      refine r1 rfl (p_mv rfl) ?_
      refine r1 rfl (p_add64 rfl rfl (by omega)) ?_
      refine r1 rfl (p_as rfl) ?_
      refine o_nil ?_
      refine ⟨(i + 1, M_), ⟨⟨(congrArg (fun z => some (Value.int .i64 z)) (by omega)), rfl, rfl, trivial⟩, rfl⟩, ?_, ?_⟩
      · skip
        refine ⟨st, ?_, ?_, ?_⟩
        · omega
        · intro j hj; rcases Nat.lt_or_ge j i with h | h
          · exact hi1 j h
          · rw [show j = i by omega]; exact hga
        · omega
      · (try dsimp only); omega
  · skip
    try simp only [Bool.and_eq_true, Bool.or_eq_true, Bool.not_eq_true', decide_eq_true_eq, decide_eq_false_iff_not, Bool.or_eq_false_iff, Bool.and_eq_false_iff, Bool.not_eq_false'] at hc
    refine x_exit ?_
    refine x_seq ?_
    refine x_region ?_
    refine r1 rfl (p_mv rfl) ?_
    refine r1 rfl (p_len runUnderlying22 rfl) ?_
    refine r1 rfl (p_gtr rfl rfl) ?_
    refine r1 rfl (p_as rfl) ?_
    refine o_nil ?_
    refine x_ret (fin1 rfl ?_)
    have hgf : greatF l = decide (50 < (l.length : Int)) := by
      unfold greatF
      rw [List.any_eq_false.2 (fun j hj => by rw [hi1 j (by have := List.mem_range.1 hj; omega)]; simp), Bool.false_or]
    rw [hgf]
    exact ⟨rfl, st.x⟩
end Go.Proofs
