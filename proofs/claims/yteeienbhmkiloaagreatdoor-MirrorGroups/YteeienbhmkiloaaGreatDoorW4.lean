import Derived.Test.YteeienbhmkiloaaGreatDoorW3
import Derived.Test.YteeienbhmkiloaaGreatDoorLV
set_option linter.unusedSimpArgs false
set_option linter.unusedVariables false
namespace Go.Proofs
open Go.Lx Tryz

theorem c_Lead (N : Nat → Prop) (h : Hp) (hN : ∀ b, N b → b < h.size) (b : Int)  (p_b : BU8 b) : C prog 82 [.int .u8 b] h (fun v h' => v = .int .i64 (leadF b) ∧ Ext h h') := by
  have st := St.init hN
  refine enter func82 rfl ntmps82 results82 rfl rfl ?_
  refine x_seq ?_
  refine x_region ?_
  refine r1 rfl (p_as rfl) ?_
  refine o_nil ?_
  refine x_seq ?_
  refine x_region ?_
  refine r1 rfl (p_as rfl) ?_
  refine o_nil ?_
  refine x_seq ?_
  refine x_block ?_
  refine x_seq ?_
  refine x_block ?_
  refine x_seq ?_
  refine x_block ?_
  refine x_seq ?_
  refine x_block ?_
  refine x_seq ?_
  refine x_block ?_
  refine x_seq ?_
  refine x_seq ?_
  refine x_seq ?_
  refine x_region ?_
  refine r1 rfl (p_mv rfl) ?_
  refine r1 rfl (p_geq rfl rfl) ?_
  refine r1 rfl (p_mv rfl) ?_
  apply o_and 3 (dj := 7) (d := 10) rfl
  · intro hg2_3
    have hg2_3_ := hg2_3
    try simp only [Bool.and_eq_true, Bool.or_eq_true, Bool.not_eq_true', decide_eq_true_eq, decide_eq_false_iff_not, Bool.or_eq_false_iff, Bool.and_eq_false_iff] at hg2_3_
    refine r1h rfl rfl rfl hg2_3 (p_mv rfl) ?_
    refine r1h rfl rfl rfl hg2_3 (p_leq rfl rfl) ?_
    refine r1 rfl (p_pickt hg2_3 rfl rfl rfl) ?_
    exact o_nil ⟨rfl, rfl, by repeat (first | exact le_r _ | refine le_c rfl ?_)⟩
  · intro hg2_3
    refine o1n rfl rfl rfl hg2_3 ?_
    refine o1n rfl rfl rfl hg2_3 ?_
    refine r1 rfl (p_pickf hg2_3 rfl rfl rfl) ?_
    exact o_nil ⟨rfl, rfl, by repeat (first | exact le_r _ | refine le_c rfl ?_)⟩
  refine r1 rfl (p_as rfl) ?_
  refine o_nil ?_
  refine x_cond rfl (fun hc1 => ?_) (fun hc1 => ?_)
  · skip
    try simp only [Bool.and_eq_true, Bool.or_eq_true, Bool.not_eq_true', decide_eq_true_eq, decide_eq_false_iff_not, Bool.or_eq_false_iff, Bool.and_eq_false_iff, Bool.not_eq_false'] at hc1
    refine x_exit ?_
    refine x_region ?_
    refine r1 rfl (p_mv rfl) ?_
    refine r1 rfl (p_add64 rfl rfl (by omega)) ?_
    refine r1 rfl (p_as rfl) ?_
    refine o_nil ?_
    refine x_region ?_
    refine r1 rfl (p_mv rfl) ?_
    refine r1 rfl (p_add64 rfl rfl (by omega)) ?_
    refine r1 rfl (p_as rfl) ?_
    refine o_nil ?_
    refine x_region ?_
    refine r1 rfl (p_mv rfl) ?_
    refine r1 rfl (p_add64 rfl rfl (by omega)) ?_
    refine r1 rfl (p_as rfl) ?_
    refine o_nil ?_
    refine x_seq ?_
    refine x_region ?_
    refine r1 rfl (p_mv rfl) ?_
    refine r1 rfl (p_add64 rfl rfl (by omega)) ?_
    refine r1 rfl (p_as rfl) ?_
    refine o_nil ?_
    refine x_exit ?_
    refine x_seq ?_
    refine x_region ?_
    refine r1 rfl (p_mv rfl) ?_
    refine r1 rfl (p_as rfl) ?_
    refine o_nil ?_
    refine x_ret (fin1 rfl ?_)
    refine ⟨?_, st.x⟩
    congr 1
    unfold leadF
    repeat (first | rw [if_pos (by omega)] | rw [if_neg (by omega)])
    try rfl
  · skip
    try simp only [Bool.and_eq_true, Bool.or_eq_true, Bool.not_eq_true', decide_eq_true_eq, decide_eq_false_iff_not, Bool.or_eq_false_iff, Bool.and_eq_false_iff, Bool.not_eq_false'] at hc1
    refine x_skip ?_
    refine x_seq ?_
    refine x_seq ?_
    refine x_region ?_
    refine r1 rfl (p_mv rfl) ?_
    refine r1 rfl (p_geq rfl rfl) ?_
    refine r1 rfl (p_mv rfl) ?_
    apply o_and 3 (dj := 14) (d := 17) rfl
    · intro hg3_3
      have hg3_3_ := hg3_3
      try simp only [Bool.and_eq_true, Bool.or_eq_true, Bool.not_eq_true', decide_eq_true_eq, decide_eq_false_iff_not, Bool.or_eq_false_iff, Bool.and_eq_false_iff] at hg3_3_
      refine r1h rfl rfl rfl hg3_3 (p_mv rfl) ?_
      refine r1h rfl rfl rfl hg3_3 (p_lss rfl rfl) ?_
      refine r1 rfl (p_pickt hg3_3 rfl rfl rfl) ?_
      exact o_nil ⟨rfl, rfl, by repeat (first | exact le_r _ | refine le_c rfl ?_)⟩
    · intro hg3_3
      refine o1n rfl rfl rfl hg3_3 ?_
      refine o1n rfl rfl rfl hg3_3 ?_
      refine r1 rfl (p_pickf hg3_3 rfl rfl rfl) ?_
      exact o_nil ⟨rfl, rfl, by repeat (first | exact le_r _ | refine le_c rfl ?_)⟩
    refine r1 rfl (p_as rfl) ?_
    refine o_nil ?_
    refine x_cond rfl (fun hc2 => ?_) (fun hc2 => ?_)
    · skip
      try simp only [Bool.and_eq_true, Bool.or_eq_true, Bool.not_eq_true', decide_eq_true_eq, decide_eq_false_iff_not, Bool.or_eq_false_iff, Bool.and_eq_false_iff, Bool.not_eq_false'] at hc2
      refine x_exit ?_
      refine x_region ?_
      refine r1 rfl (p_mv rfl) ?_
      refine r1 rfl (p_add64 rfl rfl (by omega)) ?_
      refine r1 rfl (p_as rfl) ?_
      refine o_nil ?_
      refine x_region ?_
      refine r1 rfl (p_mv rfl) ?_
      refine r1 rfl (p_add64 rfl rfl (by omega)) ?_
      refine r1 rfl (p_as rfl) ?_
      refine o_nil ?_
      refine x_seq ?_
      refine x_region ?_
      refine r1 rfl (p_mv rfl) ?_
      refine r1 rfl (p_add64 rfl rfl (by omega)) ?_
      refine r1 rfl (p_as rfl) ?_
      refine o_nil ?_
      refine x_exit ?_
      refine x_seq ?_
      refine x_region ?_
      refine r1 rfl (p_mv rfl) ?_
      refine r1 rfl (p_as rfl) ?_
      refine o_nil ?_
      refine x_ret (fin1 rfl ?_)
      refine ⟨?_, st.x⟩
      congr 1
      unfold leadF
      repeat (first | rw [if_pos (by omega)] | rw [if_neg (by omega)])
      try rfl
    · skip
      try simp only [Bool.and_eq_true, Bool.or_eq_true, Bool.not_eq_true', decide_eq_true_eq, decide_eq_false_iff_not, Bool.or_eq_false_iff, Bool.and_eq_false_iff, Bool.not_eq_false'] at hc2
      refine x_skip ?_
      refine x_seq ?_
      refine x_seq ?_
      refine x_region ?_
      refine r1 rfl (p_mv rfl) ?_
      refine r1 rfl (p_geq rfl rfl) ?_
      refine r1 rfl (p_mv rfl) ?_
      apply o_and 3 (dj := 21) (d := 24) rfl
      · intro hg4_3
        have hg4_3_ := hg4_3
        try simp only [Bool.and_eq_true, Bool.or_eq_true, Bool.not_eq_true', decide_eq_true_eq, decide_eq_false_iff_not, Bool.or_eq_false_iff, Bool.and_eq_false_iff] at hg4_3_
        refine r1h rfl rfl rfl hg4_3 (p_mv rfl) ?_
        refine r1h rfl rfl rfl hg4_3 (p_lss rfl rfl) ?_
        refine r1 rfl (p_pickt hg4_3 rfl rfl rfl) ?_
        exact o_nil ⟨rfl, rfl, by repeat (first | exact le_r _ | refine le_c rfl ?_)⟩
      · intro hg4_3
        refine o1n rfl rfl rfl hg4_3 ?_
        refine o1n rfl rfl rfl hg4_3 ?_
        refine r1 rfl (p_pickf hg4_3 rfl rfl rfl) ?_
        exact o_nil ⟨rfl, rfl, by repeat (first | exact le_r _ | refine le_c rfl ?_)⟩
      refine r1 rfl (p_as rfl) ?_
      refine o_nil ?_
      refine x_cond rfl (fun hc3 => ?_) (fun hc3 => ?_)
      · skip
        try simp only [Bool.and_eq_true, Bool.or_eq_true, Bool.not_eq_true', decide_eq_true_eq, decide_eq_false_iff_not, Bool.or_eq_false_iff, Bool.and_eq_false_iff, Bool.not_eq_false'] at hc3
        refine x_exit ?_
        refine x_region ?_
        refine r1 rfl (p_mv rfl) ?_
        refine r1 rfl (p_add64 rfl rfl (by omega)) ?_
        refine r1 rfl (p_as rfl) ?_
        refine o_nil ?_
        refine x_seq ?_
        refine x_region ?_
        refine r1 rfl (p_mv rfl) ?_
        refine r1 rfl (p_add64 rfl rfl (by omega)) ?_
        refine r1 rfl (p_as rfl) ?_
        refine o_nil ?_
        refine x_exit ?_
        refine x_seq ?_
        refine x_region ?_
        refine r1 rfl (p_mv rfl) ?_
        refine r1 rfl (p_as rfl) ?_
        refine o_nil ?_
        refine x_ret (fin1 rfl ?_)
        refine ⟨?_, st.x⟩
        congr 1
        unfold leadF
        repeat (first | rw [if_pos (by omega)] | rw [if_neg (by omega)])
        try rfl
      · skip
        try simp only [Bool.and_eq_true, Bool.or_eq_true, Bool.not_eq_true', decide_eq_true_eq, decide_eq_false_iff_not, Bool.or_eq_false_iff, Bool.and_eq_false_iff, Bool.not_eq_false'] at hc3
        refine x_skip ?_
        refine x_seq ?_
        refine x_region ?_
        refine r1 rfl (p_mv rfl) ?_
        refine r1 rfl (p_lss rfl rfl) ?_
        refine r1 rfl (p_as rfl) ?_
        refine o_nil ?_
        refine x_cond rfl (fun hc4 => ?_) (fun hc4 => ?_)
        · skip
          try simp only [Bool.and_eq_true, Bool.or_eq_true, Bool.not_eq_true', decide_eq_true_eq, decide_eq_false_iff_not, Bool.or_eq_false_iff, Bool.and_eq_false_iff, Bool.not_eq_false'] at hc4
          refine x_exit ?_
          refine x_seq ?_
          refine x_region ?_
          refine r1 rfl (p_mv rfl) ?_
          refine r1 rfl (p_add64 rfl rfl (by omega)) ?_
          refine r1 rfl (p_as rfl) ?_
          refine o_nil ?_
          refine x_exit ?_
          refine x_seq ?_
          refine x_region ?_
          refine r1 rfl (p_mv rfl) ?_
          refine r1 rfl (p_as rfl) ?_
          refine o_nil ?_
          refine x_ret (fin1 rfl ?_)
          refine ⟨?_, st.x⟩
          congr 1
          unfold leadF
          repeat (first | rw [if_pos (by omega)] | rw [if_neg (by omega)])
          try rfl
        · skip
          try simp only [Bool.and_eq_true, Bool.or_eq_true, Bool.not_eq_true', decide_eq_true_eq, decide_eq_false_iff_not, Bool.or_eq_false_iff, Bool.and_eq_false_iff, Bool.not_eq_false'] at hc4
          refine x_skip ?_
          refine x_exit ?_
          refine x_seq ?_
          refine x_region ?_
          refine r1 rfl (p_mv rfl) ?_
          refine r1 rfl (p_as rfl) ?_
          refine o_nil ?_
          refine x_ret (fin1 rfl ?_)
          refine ⟨?_, st.x⟩
          congr 1
          unfold leadF
          repeat (first | rw [if_pos (by omega)] | rw [if_neg (by omega)])
          try rfl
def sec2 (b : Int) : Int × Int := if leadF b < 2 then (0, 0) else (lo2 b, hi2 b)
theorem c_Second (N : Nat → Prop) (h : Hp) (hN : ∀ b, N b → b < h.size) (b : Int)  (p_b : BU8 b) : C prog 83 [.int .u8 b] h (fun v h' => v = .tuple #[.int .u8 ((sec2 b).1), .int .u8 ((sec2 b).2)] ∧ BU8 ((sec2 b).1) ∧ BU8 ((sec2 b).2) ∧ Ext h h') := by
  have st := St.init hN
  refine enter func83 rfl ntmps83 results83 rfl rfl ?_
  refine x_seq ?_
  refine x_region ?_
  refine r1 rfl (p_as rfl) ?_
  refine r1 rfl (p_as rfl) ?_
  refine o_nil ?_
  refine x_seq ?_
  refine x_seq ?_
  refine x_region ?_
  refine r1 rfl (p_mv rfl) ?_
  refine o1 rfl (s_call call82 rfl (c_Lead N h st.lt b p_b) ?_)
  rintro _ hp1 ⟨rfl, x1⟩
  have st := st.ext x1
  refine r1 rfl (p_lss rfl rfl) ?_
  refine o_nil ?_
  refine x_cond rfl (fun h0 => ?_) (fun h0 => ?_)
  · skip
    try simp only [Bool.and_eq_true, Bool.or_eq_true, Bool.not_eq_true', decide_eq_true_eq, decide_eq_false_iff_not, Bool.or_eq_false_iff, Bool.and_eq_false_iff, Bool.not_eq_false'] at h0
    refine x_seq ?_
    refine x_region ?_
    refine r1 rfl (p_as rfl) ?_
    refine r1 rfl (p_as rfl) ?_
    refine o_nil ?_
    refine x_ret (fin2 rfl rfl ?_)
    have e : sec2 b = (0, 0) := by unfold sec2; rw [if_pos h0]
    rw [e]
    exact ⟨rfl, (by first | omega | assumption | (dsimp only; omega)), (by first | omega | assumption | (dsimp only; omega)), st.x⟩
  · skip
    try simp only [Bool.and_eq_true, Bool.or_eq_true, Bool.not_eq_true', decide_eq_true_eq, decide_eq_false_iff_not, Bool.or_eq_false_iff, Bool.and_eq_false_iff, Bool.not_eq_false'] at h0
    have e : sec2 b = (lo2 b, hi2 b) := by unfold sec2; rw [if_neg (by omega)]
    refine x_skip ?_
    refine x_seq ?_
    refine x_region ?_
    refine r1 rfl (p_as rfl) ?_
    refine r1 rfl (p_as rfl) ?_
    refine o_nil ?_
    refine x_seq ?_
    refine x_seq ?_
    refine x_region ?_
    refine r1 rfl (p_mv rfl) ?_
    refine o_nil ?_
    refine x_block ?_
    refine x_seq ?_
    refine x_block ?_
    refine x_seq ?_
    refine x_block ?_
    refine x_seq ?_
    refine x_block ?_
    refine x_seq ?_
    refine x_block ?_
    refine x_seq ?_
    refine x_seq ?_
    refine x_seq ?_
    refine x_region ?_
    refine r1 rfl (p_eql rfl rfl) ?_
    refine r1 rfl (p_as rfl) ?_
    refine o_nil ?_
    refine x_cond rfl (fun h1 => ?_) (fun h1 => ?_)
    · skip
      try simp only [Bool.and_eq_true, Bool.or_eq_true, Bool.not_eq_true', decide_eq_true_eq, decide_eq_false_iff_not, Bool.or_eq_false_iff, Bool.and_eq_false_iff, Bool.not_eq_false'] at h1
      refine x_exit ?_
      refine x_seq ?_
      refine x_region ?_
      refine r1 rfl (p_as rfl) ?_
      refine o_nil ?_
      refine x_exit ?_
      refine x_seq ?_
      refine x_region ?_
      refine r1 rfl (p_mv rfl) ?_
      refine r1 rfl (p_mv rfl) ?_
      refine r1 rfl (p_as rfl) ?_
      refine r1 rfl (p_as rfl) ?_
      refine o_nil ?_
      refine x_ret (fin2 rfl rfl ?_)
      have e2 : sec2 b = (160, 191) := by rw [e]; unfold lo2 hi2; rw [if_pos h1, if_neg (by omega), if_neg (by omega)]
      rw [e2]
      exact ⟨rfl, (by first | omega | assumption | (dsimp only; omega)), (by first | omega | assumption | (dsimp only; omega)), st.x⟩
    · skip
      try simp only [Bool.and_eq_true, Bool.or_eq_true, Bool.not_eq_true', decide_eq_true_eq, decide_eq_false_iff_not, Bool.or_eq_false_iff, Bool.and_eq_false_iff, Bool.not_eq_false'] at h1
      refine x_skip ?_
      refine x_seq ?_
      refine x_seq ?_
      refine x_region ?_
      refine r1 rfl (p_eql rfl rfl) ?_
      refine r1 rfl (p_as rfl) ?_
      refine o_nil ?_
      refine x_cond rfl (fun h2 => ?_) (fun h2 => ?_)
      · skip
        try simp only [Bool.and_eq_true, Bool.or_eq_true, Bool.not_eq_true', decide_eq_true_eq, decide_eq_false_iff_not, Bool.or_eq_false_iff, Bool.and_eq_false_iff, Bool.not_eq_false'] at h2
        refine x_exit ?_
        refine x_seq ?_
        refine x_region ?_
        refine r1 rfl (p_as rfl) ?_
        refine o_nil ?_
        refine x_exit ?_
        refine x_seq ?_
        refine x_region ?_
        refine r1 rfl (p_mv rfl) ?_
        refine r1 rfl (p_mv rfl) ?_
        refine r1 rfl (p_as rfl) ?_
        refine r1 rfl (p_as rfl) ?_
        refine o_nil ?_
        refine x_ret (fin2 rfl rfl ?_)
        have e2 : sec2 b = (144, 191) := by rw [e]; unfold lo2 hi2; rw [if_neg h1, if_pos h2, if_neg (by omega), if_neg (by omega)]
        rw [e2]
        exact ⟨rfl, (by first | omega | assumption | (dsimp only; omega)), (by first | omega | assumption | (dsimp only; omega)), st.x⟩
      · skip
        try simp only [Bool.and_eq_true, Bool.or_eq_true, Bool.not_eq_true', decide_eq_true_eq, decide_eq_false_iff_not, Bool.or_eq_false_iff, Bool.and_eq_false_iff, Bool.not_eq_false'] at h2
        refine x_skip ?_
        refine x_seq ?_
        refine x_seq ?_
        refine x_region ?_
        refine r1 rfl (p_eql rfl rfl) ?_
        refine r1 rfl (p_as rfl) ?_
        refine o_nil ?_
        refine x_cond rfl (fun h3 => ?_) (fun h3 => ?_)
        · skip
          try simp only [Bool.and_eq_true, Bool.or_eq_true, Bool.not_eq_true', decide_eq_true_eq, decide_eq_false_iff_not, Bool.or_eq_false_iff, Bool.and_eq_false_iff, Bool.not_eq_false'] at h3
          refine x_exit ?_
          refine x_region ?_
          refine r1 rfl (p_mv rfl) ?_
          refine r1 rfl (p_subw rfl rfl (wrap_u8 (by omega))) ?_
          refine r1 rfl (p_as rfl) ?_
          refine o_nil ?_
          refine x_seq ?_
          refine x_region ?_
          refine r1 rfl (p_mv rfl) ?_
          refine r1 rfl (p_subw rfl rfl (wrap_u8 (by omega))) ?_
          refine r1 rfl (p_as rfl) ?_
          refine o_nil ?_
          refine x_exit ?_
          refine x_seq ?_
          refine x_region ?_
          refine r1 rfl (p_mv rfl) ?_
          refine r1 rfl (p_mv rfl) ?_
          refine r1 rfl (p_as rfl) ?_
          refine r1 rfl (p_as rfl) ?_
          refine o_nil ?_
          refine x_ret (fin2 rfl rfl ?_)
          have e2 : sec2 b = (128, 191 - 16 - 32) := by rw [e]; unfold lo2 hi2; rw [if_neg h1, if_neg h2, if_pos h3]; rfl
          rw [e2]
          exact ⟨rfl, (by first | omega | assumption | (dsimp only; omega)), (by first | omega | assumption | (dsimp only; omega)), st.x⟩
        · skip
          try simp only [Bool.and_eq_true, Bool.or_eq_true, Bool.not_eq_true', decide_eq_true_eq, decide_eq_false_iff_not, Bool.or_eq_false_iff, Bool.and_eq_false_iff, Bool.not_eq_false'] at h3
          refine x_skip ?_
          refine x_seq ?_
          refine x_region ?_
          refine r1 rfl (p_eql rfl rfl) ?_
          refine r1 rfl (p_as rfl) ?_
          refine o_nil ?_
          refine x_cond rfl (fun h4 => ?_) (fun h4 => ?_)
          · skip
            try simp only [Bool.and_eq_true, Bool.or_eq_true, Bool.not_eq_true', decide_eq_true_eq, decide_eq_false_iff_not, Bool.or_eq_false_iff, Bool.and_eq_false_iff, Bool.not_eq_false'] at h4
            refine x_exit ?_
            refine x_seq ?_
            refine x_region ?_
            refine r1 rfl (p_mv rfl) ?_
            refine r1 rfl (p_subw rfl rfl (wrap_u8 (by omega))) ?_
            refine r1 rfl (p_as rfl) ?_
            refine o_nil ?_
            refine x_exit ?_
            refine x_seq ?_
            refine x_region ?_
            refine r1 rfl (p_mv rfl) ?_
            refine r1 rfl (p_mv rfl) ?_
            refine r1 rfl (p_as rfl) ?_
            refine r1 rfl (p_as rfl) ?_
            refine o_nil ?_
            refine x_ret (fin2 rfl rfl ?_)
            have e2 : sec2 b = (128, 191 - 32) := by rw [e]; unfold lo2 hi2; rw [if_neg h1, if_neg h2, if_neg h3, if_pos h4]; rfl
            rw [e2]
            exact ⟨rfl, (by first | omega | assumption | (dsimp only; omega)), (by first | omega | assumption | (dsimp only; omega)), st.x⟩
          · skip
            try simp only [Bool.and_eq_true, Bool.or_eq_true, Bool.not_eq_true', decide_eq_true_eq, decide_eq_false_iff_not, Bool.or_eq_false_iff, Bool.and_eq_false_iff, Bool.not_eq_false'] at h4
            refine x_skip ?_
            refine x_exit ?_
            refine x_seq ?_
            refine x_region ?_
            refine r1 rfl (p_mv rfl) ?_
            refine r1 rfl (p_mv rfl) ?_
            refine r1 rfl (p_as rfl) ?_
            refine r1 rfl (p_as rfl) ?_
            refine o_nil ?_
            refine x_ret (fin2 rfl rfl ?_)
            have e2 : sec2 b = (128, 191) := by rw [e]; unfold lo2 hi2; rw [if_neg h1, if_neg h2, if_neg h3, if_neg h4]
            rw [e2]
            exact ⟨rfl, (by first | omega | assumption | (dsimp only; omega)), (by first | omega | assumption | (dsimp only; omega)), st.x⟩
def bitsF (b : Int) : Int := if leadF b = 0 then 0 else if leadF b = 1 then b else b % 2 ^ (7 - leadF b).toNat
theorem p_shl1 {P : Program} {E : Env} {h : Hp} {ty t t' : TypeId} {x y : Operand} {n : Int} {k' : IntKind} (hx : ev E x = some (.int .i64 1)) (hy : ev E y = some (.int k' n)) (hn : 0 ≤ n ∧ n ≤ 7) : SP P (.binOp .shl t x y t') ty E h (.int .i64 (2 ^ n.toNat)) := by
  have e : n = (n.toNat : Int) := by omega
  rw [e] at hy
  have := p_shl (P := P) (ty := ty) (h := h) (t := t) (t' := t') (s := n.toNat) hx hy (by simp [IntKind.bits]; omega)
  rw [Int.one_mul, wrap_i64 (by
    have : n.toNat ≤ 7 := by omega
    match n.toNat, this with
    | 0, _ => decide
    | 1, _ => decide
    | 2, _ => decide
    | 3, _ => decide
    | 4, _ => decide
    | 5, _ => decide
    | 6, _ => decide
    | 7, _ => decide)] at this
  exact this
theorem c_Bits (N : Nat → Prop) (h : Hp) (hN : ∀ b, N b → b < h.size) (b : Int)  (p_b : BU8 b) : C prog 116 [.int .u8 b] h (fun v h' => v = .int .i64 (bitsF b) ∧ B64 (bitsF b) ∧ Ext h h') := by
  have st := St.init hN
  have hlc := lead_cases b
  refine enter func116 rfl ntmps116 results116 rfl rfl ?_
  refine x_seq ?_
  refine x_region ?_
  refine r1 rfl (p_as rfl) ?_
  refine o_nil ?_
  refine x_seq ?_
  refine x_region ?_
  refine r1 rfl (p_mv rfl) ?_
  refine o1 rfl (s_call call82 rfl (c_Lead N h st.lt b p_b) ?_)
  rintro _ hp1 ⟨rfl, x1⟩
  have st := st.ext x1
  refine r1 rfl (p_as rfl) ?_
  refine o_nil ?_
  refine x_seq ?_
  refine x_region ?_
  refine r1 rfl (p_mv rfl) ?_
  refine o_nil ?_
  refine x_block ?_
  refine x_seq ?_
  refine x_region ?_
  refine r1 rfl (p_eql rfl rfl) ?_
  refine r1 rfl (p_as rfl) ?_
  refine o_nil ?_
  refine x_cond rfl (fun h0 => ?_) (fun h0 => ?_)
  · skip
    try simp only [Bool.and_eq_true, Bool.or_eq_true, Bool.not_eq_true', decide_eq_true_eq, decide_eq_false_iff_not, Bool.or_eq_false_iff, Bool.and_eq_false_iff, Bool.not_eq_false'] at h0
    refine x_seq ?_
    refine x_region ?_
    refine r1 rfl (p_as rfl) ?_
    refine o_nil ?_
    refine x_ret (fin1 rfl ?_)
    rw [show bitsF b = 0 by unfold bitsF; rw [if_pos h0]]
    exact ⟨rfl, (by first | omega | assumption | (dsimp only; omega)), st.x⟩
  · skip
    try simp only [Bool.and_eq_true, Bool.or_eq_true, Bool.not_eq_true', decide_eq_true_eq, decide_eq_false_iff_not, Bool.or_eq_false_iff, Bool.and_eq_false_iff, Bool.not_eq_false'] at h0
    refine x_seq ?_
    refine x_region ?_
    refine r1 rfl (p_eql rfl rfl) ?_
    refine r1 rfl (p_as rfl) ?_
    refine o_nil ?_
    refine x_cond rfl (fun h1 => ?_) (fun h1 => ?_)
    · skip
      try simp only [Bool.and_eq_true, Bool.or_eq_true, Bool.not_eq_true', decide_eq_true_eq, decide_eq_false_iff_not, Bool.or_eq_false_iff, Bool.and_eq_false_iff, Bool.not_eq_false'] at h1
      refine x_seq ?_
      refine x_region ?_
      refine r1 rfl (p_mv rfl) ?_
      refine r1 rfl (p_conv runUnderlying5 runUnderlying3 rfl (wrap_i64 (by omega))) ?_
      refine r1 rfl (p_as rfl) ?_
      refine o_nil ?_
      refine x_ret (fin1 rfl ?_)
      rw [show bitsF b = b by unfold bitsF; rw [if_neg h0, if_pos h1]]
      exact ⟨rfl, (by first | omega | assumption | (dsimp only; omega)), st.x⟩
    · skip
      try simp only [Bool.and_eq_true, Bool.or_eq_true, Bool.not_eq_true', decide_eq_true_eq, decide_eq_false_iff_not, Bool.or_eq_false_iff, Bool.and_eq_false_iff, Bool.not_eq_false'] at h1
      have hp : (1 : Int) ≤ 2 ^ (7 - leadF b).toNat ∧ (2 : Int) ^ (7 - leadF b).toNat ≤ 32 := by
        rcases hlc with h | h | h | h | h <;> rw [h] <;> first | omega | decide
      refine x_seq ?_
      refine x_region ?_
      refine r1 rfl (p_mv rfl) ?_
      refine r1 rfl (p_conv runUnderlying5 runUnderlying3 rfl (wrap_i64 (by omega))) ?_
      refine r1 rfl (p_mv rfl) ?_
      refine r1 rfl (p_sub64 rfl rfl (by omega)) ?_
      refine r1 rfl (p_shl1 rfl rfl (by omega)) ?_
      refine r1 rfl (p_sub64 rfl rfl (by omega)) ?_
      refine r1 rfl (p_and rfl rfl (by simp [IntKind.bits]; omega) (by simp [IntKind.bits]; omega) (and_mask _ (by omega)) (wrap_i64 (by have := Int.emod_nonneg b (show (2 : Int) ^ (7 - leadF b).toNat ≠ 0 by omega); have := Int.emod_lt_of_pos b (show 0 < (2 : Int) ^ (7 - leadF b).toNat by omega); omega))) ?_
      refine r1 rfl (p_as rfl) ?_
      refine o_nil ?_
      refine x_ret (fin1 rfl ?_)
      rw [show bitsF b = b % 2 ^ (7 - leadF b).toNat by unfold bitsF; rw [if_neg h0, if_neg h1]]
      have hx1 := Int.emod_nonneg b (show (2 : Int) ^ (7 - leadF b).toNat ≠ 0 by omega)
      have hx2 := Int.emod_lt_of_pos b (show 0 < (2 : Int) ^ (7 - leadF b).toNat by omega)
      exact ⟨rfl, (by first | omega | assumption | (dsimp only; omega)), st.x⟩
end Go.Proofs
