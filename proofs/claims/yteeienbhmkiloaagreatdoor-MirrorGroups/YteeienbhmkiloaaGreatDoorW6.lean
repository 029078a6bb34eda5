import Derived.Test.YteeienbhmkiloaaGreatDoorW5
import Derived.Test.YteeienbhmkiloaaGreatDoorLW
set_option linter.unusedSimpArgs false
set_option linter.unusedVariables false
namespace Go.Proofs
open Go.Lx Tryz

structure OpT where
  kind : Int
  a : Int
  b : Int
  bytes : List Int
  deriving DecidableEq, Inhabited
def rOpT : Rp OpT where
  k := 4
  R := fun M h x cs => ∃ (a_3 : Option Addr), ∃ (c_3 : Nat), cs = [.int .i64 x.kind, .int .i64 x.a, .int .i64 x.b, .slice a_3 x.bytes.length c_3] ∧ B64 x.kind ∧ B64 x.a ∧ B64 x.b ∧ Sl r8 M h a_3 c_3 x.bytes
  len := by rintro M h x cs ⟨a_3, c_3, rfl, p_0, p_1, p_2, s_3⟩; rfl
  one := by
    rintro M h x cs ⟨a_3, c_3, rfl, p_0, p_1, p_2, s_3⟩ v hv
    simp only [List.mem_cons, List.not_mem_nil, or_false] at hv
    rcases hv with rfl | rfl | rfl | rfl <;> rfl
  gr := by rintro M h M' h' x cs ⟨a_3, c_3, rfl, p_0, p_1, p_2, s_3⟩ g; exact ⟨a_3, c_3, rfl, p_0, p_1, p_2, s_3.gr g⟩
def GL : List Nat := [0, 1]
def wrongF (o : OpT) : Int := if o.kind < 2 ∨ 12 < o.kind then 5 else if (o.kind = 3 ∨ o.kind = 4) ∧ (o.a < 0 ∨ 2 < o.a) then 3 else 0
theorem c_38Wrong (N : Nat → Prop) (h : Hp) (hN : ∀ b, N b → b < h.size) (o : OpT) {a_o_bytes : Option Addr} {c_o_bytes : Nat} (p_o_kind : B64 o.kind) (p_o_a : B64 o.a) (p_o_b : B64 o.b) (s_o_bytes : Sl r8 N h a_o_bytes c_o_bytes o.bytes) : C prog 8 [.agg #[.int .i64 o.kind, .int .i64 o.a, .int .i64 o.b, .slice a_o_bytes o.bytes.length c_o_bytes]] h (fun v h' => v = .int .i64 (wrongF o) ∧ Ext h h') := by
  have st := St.init hN
  have ns_o_bytes := s_o_bytes.ll
  refine enter func8 rfl ntmps8 results8 rfl rfl ?_
  refine x_seq ?_
  refine x_region ?_
  refine o1 rfl (s_box rfl rfl ?_)
  intro b1 hb1 n1
  obtain ⟨M1, nm1⟩ := nm (M := N) n1
  have gb1 : h.size ≤ b1 := n1.ge st.kp
  have st := st.new n1 nm1
  have lb1 := n1.bl
  have mb1 := nm1.mem
  refine r1 rfl (p_as rfl) ?_
  refine o_nil ?_
  refine x_seq ?_
  refine x_seq ?_
  refine x_region ?_
  refine r1 rfl (p_fld runUnderlying38 rfl sizeOf3 (by decide) rfl rfl) ?_
  refine r1 rfl (p_ld isAgg3 rfl (lb1.get rfl)) ?_
  refine r1 rfl (p_lss rfl rfl) ?_
  refine r1 rfl (p_mv rfl) ?_
  apply o_or 4 (dj := 6) (d := 10) rfl
  · intro hg1_4
    have hg1_4_ := hg1_4
    try simp only [Bool.and_eq_true, Bool.or_eq_true, Bool.not_eq_true', decide_eq_true_eq, decide_eq_false_iff_not, Bool.or_eq_false_iff, Bool.and_eq_false_iff] at hg1_4_
    refine r1h rfl rfl rfl hg1_4 (p_fld runUnderlying38 rfl sizeOf3 (by decide) rfl rfl) ?_
    refine r1h rfl rfl rfl hg1_4 (p_ld isAgg3 rfl (lb1.get rfl)) ?_
    refine r1h rfl rfl rfl hg1_4 (p_gtr rfl rfl) ?_
    refine r1 rfl (p_pickf hg1_4 rfl rfl rfl) ?_
    exact o_nil ⟨rfl, rfl, by repeat (first | exact le_r _ | refine le_c rfl ?_)⟩
  · intro hg1_4
    refine o1n rfl rfl rfl hg1_4 ?_
    refine o1n rfl rfl rfl hg1_4 ?_
    refine o1n rfl rfl rfl hg1_4 ?_
    refine r1 rfl (p_pickt hg1_4 rfl rfl rfl) ?_
    exact o_nil ⟨rfl, rfl, by repeat (first | exact le_r _ | refine le_c rfl ?_)⟩
  refine o_nil ?_
  refine x_cond rfl (fun hc2 => ?_) (fun hc2 => ?_)
  · skip
    try simp only [Bool.and_eq_true, Bool.or_eq_true, Bool.not_eq_true', decide_eq_true_eq, decide_eq_false_iff_not, Bool.or_eq_false_iff, Bool.and_eq_false_iff, Bool.not_eq_false'] at hc2
    refine x_seq ?_
    refine x_region ?_
    refine r1 rfl (p_as rfl) ?_
    refine o_nil ?_
    refine x_ret (fin1 rfl ?_)
    refine ⟨?_, st.x⟩
    congr 1
    unfold wrongF
    repeat (first | rw [if_pos (by omega)] | rw [if_neg (by omega)])
  · skip
    try simp only [Bool.and_eq_true, Bool.or_eq_true, Bool.not_eq_true', decide_eq_true_eq, decide_eq_false_iff_not, Bool.or_eq_false_iff, Bool.and_eq_false_iff, Bool.not_eq_false'] at hc2
    refine x_skip ?_
    refine x_seq ?_
    refine x_seq ?_
    refine x_region ?_
    refine r1 rfl (p_fld runUnderlying38 rfl sizeOf3 (by decide) rfl rfl) ?_
    refine r1 rfl (p_ld isAgg3 rfl (lb1.get rfl)) ?_
    refine r1 rfl (p_eql rfl rfl) ?_
    refine r1 rfl (p_mv rfl) ?_
    apply o_or 4 (dj := 14) (d := 18) rfl
    · intro hg3_4
      have hg3_4_ := hg3_4
      try simp only [Bool.and_eq_true, Bool.or_eq_true, Bool.not_eq_true', decide_eq_true_eq, decide_eq_false_iff_not, Bool.or_eq_false_iff, Bool.and_eq_false_iff] at hg3_4_
      refine r1h rfl rfl rfl hg3_4 (p_fld runUnderlying38 rfl sizeOf3 (by decide) rfl rfl) ?_
      refine r1h rfl rfl rfl hg3_4 (p_ld isAgg3 rfl (lb1.get rfl)) ?_
      refine r1h rfl rfl rfl hg3_4 (p_eql rfl rfl) ?_
      refine r1 rfl (p_pickf hg3_4 rfl rfl rfl) ?_
      exact o_nil ⟨rfl, rfl, by repeat (first | exact le_r _ | refine le_c rfl ?_)⟩
    · intro hg3_4
      refine o1n rfl rfl rfl hg3_4 ?_
      refine o1n rfl rfl rfl hg3_4 ?_
      refine o1n rfl rfl rfl hg3_4 ?_
      refine r1 rfl (p_pickt hg3_4 rfl rfl rfl) ?_
      exact o_nil ⟨rfl, rfl, by repeat (first | exact le_r _ | refine le_c rfl ?_)⟩
    refine r1 rfl (p_mv rfl) ?_
    apply o_and 9 (dj := 19) (d := 28) rfl
    · intro hg3_9
      have hg3_9_ := hg3_9
      try simp only [Bool.and_eq_true, Bool.or_eq_true, Bool.not_eq_true', decide_eq_true_eq, decide_eq_false_iff_not, Bool.or_eq_false_iff, Bool.and_eq_false_iff] at hg3_9_
      refine r1h rfl rfl rfl hg3_9 (p_fld runUnderlying38 rfl sizeOf3 (by decide) rfl rfl) ?_
      refine r1h rfl rfl rfl hg3_9 (p_ld isAgg3 rfl (lb1.get rfl)) ?_
      refine r1h rfl rfl rfl hg3_9 (p_lss rfl rfl) ?_
      refine r1h rfl rfl rfl hg3_9 (p_mv rfl) ?_
      apply o_or 4 (dj := 23) (d := 27) rfl
      · intro hg3_13
        have hg3_13_ := hg3_13
        try simp only [Bool.and_eq_true, Bool.or_eq_true, Bool.not_eq_true', decide_eq_true_eq, decide_eq_false_iff_not, Bool.or_eq_false_iff, Bool.and_eq_false_iff] at hg3_13_
        refine r1h rfl rfl rfl hg3_13 (p_fld runUnderlying38 rfl sizeOf3 (by decide) rfl rfl) ?_
        refine r1h rfl rfl rfl hg3_13 (p_ld isAgg3 rfl (lb1.get rfl)) ?_
        refine r1h rfl rfl rfl hg3_13 (p_gtr rfl rfl) ?_
        refine r1h rfl rfl rfl hg3_9 (p_pickf hg3_13 rfl rfl rfl) ?_
        exact o_nil ⟨rfl, rfl, by repeat (first | exact le_r _ | refine le_c rfl ?_)⟩
      · intro hg3_13
        refine o1n rfl rfl rfl hg3_13 ?_
        refine o1n rfl rfl rfl hg3_13 ?_
        refine o1n rfl rfl rfl hg3_13 ?_
        refine r1h rfl rfl rfl hg3_9 (p_pickt hg3_13 rfl rfl rfl) ?_
        exact o_nil ⟨rfl, rfl, by repeat (first | exact le_r _ | refine le_c rfl ?_)⟩
      refine r1 rfl (p_pickt hg3_9 rfl rfl rfl) ?_
      exact o_nil ⟨rfl, rfl, by repeat (first | exact le_r _ | refine le_c rfl ?_)⟩
    · intro hg3_9
      refine o1n rfl rfl rfl hg3_9 ?_
      refine o1n rfl rfl rfl hg3_9 ?_
      refine o1n rfl rfl rfl hg3_9 ?_
      refine o1n rfl rfl rfl hg3_9 ?_
      refine o1u rfl rfl rfl ?_
      refine o1u rfl rfl rfl ?_
      refine o1u rfl rfl rfl ?_
      refine o1n rfl rfl rfl hg3_9 ?_
      refine r1 rfl (p_pickf hg3_9 rfl rfl rfl) ?_
      exact o_nil ⟨rfl, rfl, by repeat (first | exact le_r _ | refine le_c rfl ?_)⟩
    refine o_nil ?_
    refine x_cond rfl (fun hc3 => ?_) (fun hc3 => ?_)
    · skip
      try simp only [Bool.and_eq_true, Bool.or_eq_true, Bool.not_eq_true', decide_eq_true_eq, decide_eq_false_iff_not, Bool.or_eq_false_iff, Bool.and_eq_false_iff, Bool.not_eq_false'] at hc3
      refine x_seq ?_
      refine x_region ?_
      refine r1 rfl (p_as rfl) ?_
      refine o_nil ?_
      refine x_ret (fin1 rfl ?_)
      refine ⟨?_, st.x⟩
      congr 1
      unfold wrongF
      repeat (first | rw [if_pos (by omega)] | rw [if_neg (by omega)])
    · skip
      try simp only [Bool.and_eq_true, Bool.or_eq_true, Bool.not_eq_true', decide_eq_true_eq, decide_eq_false_iff_not, Bool.or_eq_false_iff, Bool.and_eq_false_iff, Bool.not_eq_false'] at hc3
      refine x_skip ?_
      refine x_seq ?_
      refine x_region ?_
      refine r1 rfl (p_as rfl) ?_
      refine o_nil ?_
      refine x_ret (fin1 rfl ?_)
      refine ⟨?_, st.x⟩
      congr 1
      unfold wrongF
      repeat (first | rw [if_pos (by omega)] | rw [if_neg (by omega)])
theorem c_Does (N : Nat → Prop) (h : Hp) (hN : ∀ b, N b → b < h.size) (k : Int)   : C prog 52 [.int .i64 k] h (fun v h' => v = .bool (decide (2 ≤ k) && decide (k ≤ 12)) ∧ Ext h h') := by
  have st := St.init hN
  refine enter func52 rfl ntmps52 results52 rfl rfl ?_
  refine x_seq ?_
  refine x_region ?_
  refine r1 rfl (p_as rfl) ?_
  refine o_nil ?_
  refine x_seq ?_
  refine x_region ?_
  refine r1 rfl (p_mv rfl) ?_
  refine r1 rfl (p_geq rfl rfl) ?_
  refine r1 rfl (p_mv rfl) ?_
  apply o_and 3 (dj := 5) (d := 8) rfl
  · intro hg1_3
    have hg1_3_ := hg1_3
    try simp only [Bool.and_eq_true, Bool.or_eq_true, Bool.not_eq_true', decide_eq_true_eq, decide_eq_false_iff_not, Bool.or_eq_false_iff, Bool.and_eq_false_iff] at hg1_3_
    refine r1h rfl rfl rfl hg1_3 (p_mv rfl) ?_
    refine r1h rfl rfl rfl hg1_3 (p_leq rfl rfl) ?_
    refine r1 rfl (p_pickt hg1_3 rfl rfl rfl) ?_
    exact o_nil ⟨rfl, rfl, by repeat (first | exact le_r _ | refine le_c rfl ?_)⟩
  · intro hg1_3
    refine o1n rfl rfl rfl hg1_3 ?_
    refine o1n rfl rfl rfl hg1_3 ?_
    refine r1 rfl (p_pickf hg1_3 rfl rfl rfl) ?_
    exact o_nil ⟨rfl, rfl, by repeat (first | exact le_r _ | refine le_c rfl ?_)⟩
  refine r1 rfl (p_as rfl) ?_
  refine o_nil ?_
  refine x_ret (fin1 rfl ?_)
  exact ⟨rfl, st.x⟩
theorem c_editWrong (N : Nat → Prop) (h : Hp) (hN : ∀ b, N b → b < h.size) (o : OpT) {a_o_bytes : Option Addr} {c_o_bytes : Nat} (p_o_kind : B64 o.kind) (p_o_a : B64 o.a) (p_o_b : B64 o.b) (s_o_bytes : Sl r8 N h a_o_bytes c_o_bytes o.bytes) (gl : Gl GL N h) : C prog 31 [.agg #[.int .i64 o.kind, .int .i64 o.a, .int .i64 o.b, .slice a_o_bytes o.bytes.length c_o_bytes]] h (fun v h' => ∃ (er : Value), v = er ∧ Ev er (wrongF o) ∧ Ext h h') := by
  have st := St.init hN
  have ns_o_bytes := s_o_bytes.ll
  refine enter func31 rfl ntmps31 results31 rfl rfl ?_
  refine x_seq ?_
  refine x_region ?_
  refine o1 rfl (s_box rfl rfl ?_)
  intro b1 hb1 n1
  obtain ⟨M1, nm1⟩ := nm (M := N) n1
  have gb1 : h.size ≤ b1 := n1.ge st.kp
  have st := st.new n1 nm1
  have lb1 := n1.bl
  have mb1 := nm1.mem
  refine r1 rfl (p_as rfl) ?_
  refine o_nil ?_
  refine x_seq ?_
  refine x_block ?_
  refine x_seq ?_
  refine x_region ?_
  refine r1 rfl (p_fld runUnderlying38 rfl sizeOf3 (by decide) rfl rfl) ?_
  refine r1 rfl (p_ld isAgg3 rfl (lb1.get rfl)) ?_
  refine o1 rfl (s_call call52 rfl (c_Does M1 hb1 st.lt o.kind) ?_)
  rintro _ hp2 ⟨rfl, x2⟩
  have lb1 := lb1.lift (x2)
  have st := st.ext x2
  refine r1 rfl (p_not rfl) ?_
  refine r1 rfl (p_as rfl) ?_
  refine o_nil ?_
  refine x_cond rfl (fun h1 => ?_) (fun h1 => ?_)
  · skip
    try simp only [Bool.and_eq_true, Bool.or_eq_true, Bool.not_eq_true', decide_eq_true_eq, decide_eq_false_iff_not, Bool.or_eq_false_iff, Bool.and_eq_false_iff, Bool.not_eq_false'] at h1
    refine x_seq ?_
    refine x_region ?_
    have ge3 := (gl.gr st.gr).at_ 0 (by decide)
    have ev3 : Ev (gerr hp2 0) 5 := (gl.gr st.gr).ev 0 (by decide) (by decide)
    refine r1 rfl (p_ld isAgg66 rfl ge3) ?_
    refine r1 rfl (p_as rfl) ?_
    refine o_nil ?_
    refine x_ret (fin1 rfl ?_)
    rw [show wrongF o = 5 by unfold wrongF; rw [if_pos (by omega)]]
    exact ⟨_, rfl, ev3, st.x⟩
  · skip
    try simp only [Bool.and_eq_true, Bool.or_eq_true, Bool.not_eq_true', decide_eq_true_eq, decide_eq_false_iff_not, Bool.or_eq_false_iff, Bool.and_eq_false_iff, Bool.not_eq_false'] at h1
    refine x_seq ?_
    refine x_region ?_
    refine r1 rfl (p_fld runUnderlying38 rfl sizeOf3 (by decide) rfl rfl) ?_
    refine r1 rfl (p_ld isAgg3 rfl (lb1.get rfl)) ?_
    refine r1 rfl (p_leq rfl rfl) ?_
    refine r1 rfl (p_mv rfl) ?_
    apply o_and 4 (dj := 13) (d := 17) rfl
    · intro hg3_4
      have hg3_4_ := hg3_4
      try simp only [Bool.and_eq_true, Bool.or_eq_true, Bool.not_eq_true', decide_eq_true_eq, decide_eq_false_iff_not, Bool.or_eq_false_iff, Bool.and_eq_false_iff] at hg3_4_
      refine r1h rfl rfl rfl hg3_4 (p_fld runUnderlying38 rfl sizeOf3 (by decide) rfl rfl) ?_
      refine r1h rfl rfl rfl hg3_4 (p_ld isAgg3 rfl (lb1.get rfl)) ?_
      refine r1h rfl rfl rfl hg3_4 (p_neq rfl rfl) ?_
      refine r1 rfl (p_pickt hg3_4 rfl rfl rfl) ?_
      exact o_nil ⟨rfl, rfl, by repeat (first | exact le_r _ | refine le_c rfl ?_)⟩
    · intro hg3_4
      refine o1n rfl rfl rfl hg3_4 ?_
      refine o1n rfl rfl rfl hg3_4 ?_
      refine o1n rfl rfl rfl hg3_4 ?_
      refine r1 rfl (p_pickf hg3_4 rfl rfl rfl) ?_
      exact o_nil ⟨rfl, rfl, by repeat (first | exact le_r _ | refine le_c rfl ?_)⟩
    refine r1 rfl (p_mv rfl) ?_
    apply o_and 9 (dj := 18) (d := 27) rfl
    · intro hg3_9
      have hg3_9_ := hg3_9
      try simp only [Bool.and_eq_true, Bool.or_eq_true, Bool.not_eq_true', decide_eq_true_eq, decide_eq_false_iff_not, Bool.or_eq_false_iff, Bool.and_eq_false_iff] at hg3_9_
      refine r1h rfl rfl rfl hg3_9 (p_fld runUnderlying38 rfl sizeOf3 (by decide) rfl rfl) ?_
      refine r1h rfl rfl rfl hg3_9 (p_ld isAgg3 rfl (lb1.get rfl)) ?_
      refine r1h rfl rfl rfl hg3_9 (p_lss rfl rfl) ?_
      refine r1h rfl rfl rfl hg3_9 (p_mv rfl) ?_
      apply o_or 4 (dj := 22) (d := 26) rfl
      · intro hg3_13
        have hg3_13_ := hg3_13
        try simp only [Bool.and_eq_true, Bool.or_eq_true, Bool.not_eq_true', decide_eq_true_eq, decide_eq_false_iff_not, Bool.or_eq_false_iff, Bool.and_eq_false_iff] at hg3_13_
        refine r1h rfl rfl rfl hg3_13 (p_fld runUnderlying38 rfl sizeOf3 (by decide) rfl rfl) ?_
        refine r1h rfl rfl rfl hg3_13 (p_ld isAgg3 rfl (lb1.get rfl)) ?_
        refine r1h rfl rfl rfl hg3_13 (p_gtr rfl rfl) ?_
        refine r1h rfl rfl rfl hg3_9 (p_pickf hg3_13 rfl rfl rfl) ?_
        exact o_nil ⟨rfl, rfl, by repeat (first | exact le_r _ | refine le_c rfl ?_)⟩
      · intro hg3_13
        refine o1n rfl rfl rfl hg3_13 ?_
        refine o1n rfl rfl rfl hg3_13 ?_
        refine o1n rfl rfl rfl hg3_13 ?_
        refine r1h rfl rfl rfl hg3_9 (p_pickt hg3_13 rfl rfl rfl) ?_
        exact o_nil ⟨rfl, rfl, by repeat (first | exact le_r _ | refine le_c rfl ?_)⟩
      refine r1 rfl (p_pickt hg3_9 rfl rfl rfl) ?_
      exact o_nil ⟨rfl, rfl, by repeat (first | exact le_r _ | refine le_c rfl ?_)⟩
    · intro hg3_9
      refine o1n rfl rfl rfl hg3_9 ?_
      refine o1n rfl rfl rfl hg3_9 ?_
      refine o1n rfl rfl rfl hg3_9 ?_
      refine o1n rfl rfl rfl hg3_9 ?_
      refine o1u rfl rfl rfl ?_
      refine o1u rfl rfl rfl ?_
      refine o1u rfl rfl rfl ?_
      refine o1n rfl rfl rfl hg3_9 ?_
      refine r1 rfl (p_pickf hg3_9 rfl rfl rfl) ?_
      exact o_nil ⟨rfl, rfl, by repeat (first | exact le_r _ | refine le_c rfl ?_)⟩
    refine r1 rfl (p_as rfl) ?_
    refine o_nil ?_
    refine x_cond rfl (fun h2 => ?_) (fun h2 => ?_)
    · skip
      try simp only [Bool.and_eq_true, Bool.or_eq_true, Bool.not_eq_true', decide_eq_true_eq, decide_eq_false_iff_not, Bool.or_eq_false_iff, Bool.and_eq_false_iff, Bool.not_eq_false'] at h2
      refine x_seq ?_
      refine x_region ?_
      have ge4 := (gl.gr st.gr).at_ 1 (by decide)
      have ev4 : Ev (gerr hp2 1) 3 := (gl.gr st.gr).ev 1 (by decide) (by decide)
      refine r1 rfl (p_ld isAgg66 rfl ge4) ?_
      refine r1 rfl (p_as rfl) ?_
      refine o_nil ?_
      refine x_ret (fin1 rfl ?_)
      rw [show wrongF o = 3 by unfold wrongF; rw [if_neg (by omega), if_pos (by omega)]]
      exact ⟨_, rfl, ev4, st.x⟩
    · skip
      try simp only [Bool.and_eq_true, Bool.or_eq_true, Bool.not_eq_true', decide_eq_true_eq, decide_eq_false_iff_not, Bool.or_eq_false_iff, Bool.and_eq_false_iff, Bool.not_eq_false'] at h2
      refine x_skip ?_
      refine x_seq ?_
      refine x_region ?_
      refine r1 rfl (p_as rfl) ?_
      refine o_nil ?_
      refine x_ret (fin1 rfl ?_)
      rw [show wrongF o = 0 by unfold wrongF; rw [if_neg (by omega), if_neg (by omega)]]
      exact ⟨.nilIface, rfl, Ev.nil, st.x⟩
def closesF (o : OpT) : Bool := decide (o.kind = 1) || decide (o.kind = 13) || decide (wrongF o = 0)
theorem c_closes (N : Nat → Prop) (h : Hp) (hN : ∀ b, N b → b < h.size) (o : OpT) {a_o_bytes : Option Addr} {c_o_bytes : Nat} (p_o_kind : B64 o.kind) (p_o_a : B64 o.a) (p_o_b : B64 o.b) (s_o_bytes : Sl r8 N h a_o_bytes c_o_bytes o.bytes) (gl : Gl GL N h) : C prog 16 [.agg #[.int .i64 o.kind, .int .i64 o.a, .int .i64 o.b, .slice a_o_bytes o.bytes.length c_o_bytes]] h (fun v h' => v = .bool (closesF o) ∧ Ext h h') := by
  have st := St.init hN
  have ns_o_bytes := s_o_bytes.ll
  refine enter func16 rfl ntmps16 results16 rfl rfl ?_
  refine x_seq ?_
  refine x_region ?_
  refine o1 rfl (s_box rfl rfl ?_)
  intro b1 hb1 n1
  obtain ⟨M1, nm1⟩ := nm (M := N) n1
  have gb1 : h.size ≤ b1 := n1.ge st.kp
  have st := st.new n1 nm1
  have lb1 := n1.bl
  have mb1 := nm1.mem
  refine r1 rfl (p_as rfl) ?_
  refine o_nil ?_
  refine x_seq ?_
  refine x_region ?_
  refine r1 rfl (p_fld runUnderlying38 rfl sizeOf3 (by decide) rfl rfl) ?_
  refine r1 rfl (p_ld isAgg3 rfl (lb1.get rfl)) ?_
  refine r1 rfl (p_eql rfl rfl) ?_
  refine r1 rfl (p_mv rfl) ?_
  apply o_or 4 (dj := 6) (d := 10) rfl
  · intro hg1_4
    have hg1_4_ := hg1_4
    try simp only [Bool.and_eq_true, Bool.or_eq_true, Bool.not_eq_true', decide_eq_true_eq, decide_eq_false_iff_not, Bool.or_eq_false_iff, Bool.and_eq_false_iff] at hg1_4_
    refine r1h rfl rfl rfl hg1_4 (p_fld runUnderlying38 rfl sizeOf3 (by decide) rfl rfl) ?_
    refine r1h rfl rfl rfl hg1_4 (p_ld isAgg3 rfl (lb1.get rfl)) ?_
    refine r1h rfl rfl rfl hg1_4 (p_eql rfl rfl) ?_
    refine r1 rfl (p_pickf hg1_4 rfl rfl rfl) ?_
    exact o_nil ⟨rfl, rfl, by repeat (first | exact le_r _ | refine le_c rfl ?_)⟩
  · intro hg1_4
    refine o1n rfl rfl rfl hg1_4 ?_
    refine o1n rfl rfl rfl hg1_4 ?_
    refine o1n rfl rfl rfl hg1_4 ?_
    refine r1 rfl (p_pickt hg1_4 rfl rfl rfl) ?_
    exact o_nil ⟨rfl, rfl, by repeat (first | exact le_r _ | refine le_c rfl ?_)⟩
  refine r1 rfl (p_mv rfl) ?_
  apply o_orx 4 (dj := 11) (d := 15) rfl
  · intro hg1_9
    have hg1_9_ := hg1_9
    try simp only [Bool.and_eq_true, Bool.or_eq_true, Bool.not_eq_true', decide_eq_true_eq, decide_eq_false_iff_not, Bool.or_eq_false_iff, Bool.and_eq_false_iff] at hg1_9_
    have xghg1_9 := Ext.refl hb1
    refine r1h rfl rfl rfl hg1_9 (p_lda isAgg38 rfl (lb1.gets rfl) sizeOf38) ?_
    refine o1h rfl rfl rfl hg1_9 (s_call call31 rfl (c_editWrong M1 hb1 st.lt o p_o_kind p_o_a p_o_b (s_o_bytes.gr st.gr) (by exact gl.gr st.gr)) ?_)
    rintro _ hp2 ⟨e2, rfl, ev2, x2⟩
    have lb1 := lb1.lift (x2)
    have st := st.ext x2
    have xghg1_9 := xghg1_9.trans (x2)
    refine r1h rfl rfl rfl hg1_9 (p_eqlif runUnderlying66 rfl ev2) ?_
    refine r1 rfl (p_pickf hg1_9 rfl rfl rfl) ?_
    exact o_nil ⟨rfl, xghg1_9, by repeat (first | exact le_r _ | refine le_c rfl ?_)⟩
  · intro hg1_9
    refine o1n rfl rfl rfl hg1_9 ?_
    refine o1n rfl rfl rfl hg1_9 ?_
    refine o1n rfl rfl rfl hg1_9 ?_
    refine r1 rfl (p_pickt hg1_9 rfl rfl rfl) ?_
    exact o_nil ⟨rfl, Ext.refl _, by repeat (first | exact le_r _ | refine le_c rfl ?_)⟩
  intro hx3 xx3
  have lb1 := lb1.lift (xx3)
  have st := st.ext xx3
  refine r1 rfl (p_as rfl) ?_
  refine o_nil ?_
  refine x_ret (fin1 rfl ?_)
  exact ⟨rfl, st.x⟩
end Go.Proofs
