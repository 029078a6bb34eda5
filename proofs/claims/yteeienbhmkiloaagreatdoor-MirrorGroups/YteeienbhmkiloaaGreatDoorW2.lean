import Derived.Test.YteeienbhmkiloaaGreatDoorW1
set_option linter.unusedSimpArgs false
set_option linter.unusedVariables false
namespace Go.Proofs
open Go.Lx Tryz

theorem begins_len {b : List Int} (h : 0 < beginsF b) : 1 ≤ b.length ∧ (b.length : Int) ≤ beginsF b ∧ beginsF b ≤ 4 := by
  unfold beginsF at h ⊢
  split at h
  · rename_i e; rw [if_pos e]; omega
  · rename_i e1; rw [if_neg e1]
    split at h
    · rename_i e; rw [if_pos e]; omega
    · rename_i e2; rw [if_neg e2]
      split at h
      · rename_i e; rw [if_pos e]; omega
      · rename_i e3; rw [if_neg e3]
        split at h
        · rename_i e; rw [if_pos e]; omega
        · omega
def step0 (b : Int) : List Int × List Int :=
  if 1 < beginsF [b] then ([], [b]) else if 0 < beginsF [b] then ([wholeF [b]], []) else ([65533], [])
def stepF (h : List Int) (b : Int) : List Int × List Int :=
  if ((h ++ [b]).length : Int) < beginsF (h ++ [b]) then ([], h ++ [b]) else if 0 < beginsF (h ++ [b]) then ([wholeF (h ++ [b])], [])
  else if h = [] then ([65533], []) else (65533 :: (step0 b).1, (step0 b).2)
theorem stepF_nil (b : Int) : stepF [] b = step0 b := by
  unfold stepF step0
  simp
theorem step0_len (b : Int) : (step0 b).1.length ≤ 1 ∧ (step0 b).2.length ≤ 1 := by
  unfold step0
  split
  · simp
  · split <;> simp
theorem c_03Step0 (N : Nat → Prop) (h : Hp) (hN : ∀ b, N b → b < h.size) (hh : List Int) (b : Int) {a_hh : Option Addr} {c_hh : Nat} (s_hh : Sl r8 N h a_hh c_hh hh) (p_b : BU8 b) (hh0 : hh = []) : C prog 34 [.slice a_hh hh.length c_hh, .int .u8 b] h (fun v h' => ∃ (ar0 : Option Addr) (cr0 : Nat), ∃ (ar1 : Option Addr) (cr1 : Nat), v = .tuple #[.slice ar0 ((step0 b).1).length cr0, .slice ar1 ((step0 b).2).length cr1] ∧ Sl r32 N h' ar0 cr0 ((step0 b).1) ∧ Sl r8 N h' ar1 cr1 ((step0 b).2) ∧ Ext h h') := by
  have st := St.init hN
  have ns_hh := s_hh.ll
  have hl0 : hh.length = 0 := by rw [hh0]; rfl
  refine enter func34 rfl ntmps34 results34 rfl rfl ?_
  refine x_seq ?_
  refine x_region ?_
  refine r1 rfl (p_as rfl) ?_
  refine r1 rfl (p_as rfl) ?_
  refine o_nil ?_
  refine x_seq ?_
  refine x_region ?_
  refine o1 rfl (s_bs0 runUnderlying57 sizeOf5 ?_)
  intro bb1 hb1 n1
  have st := st.ext n1.ext
  have s1 : Ow h.size 5 r8 N hb1 (some ⟨bb1, 0, none⟩) 0 [] := .nil
  refine r1 rfl (p_mv rfl) ?_
  refine o1 rfl (s_app runUnderlying57 runUnderlying57 sizeOf5 typeInfo5 zeroValue5 rfl rfl rfl rfl rfl rfl s1 (s_hh.gr st.gr) (Nat.le_trans st.kp.size (Nat.le_refl _)) (by first | omega | (simp only [List.length_append, List.length_cons, List.length_nil]; omega)) ?_)
  intro a3 c3 hp3 ap3 wf3
  obtain ⟨M3, am3⟩ := am ap3 s1.mem
  have w3_ := wf3 M3 am3
  have st := st.app ap3 am3 (fun b hb => .inl (s1.ge b hb))
  have w3 := w3_
  replace w3 : Ow h.size 5 r8 M3 hp3 a3 c3 hh := w3
  refine r1 rfl (p_mv rfl) ?_
  refine o1 rfl (s_bs runUnderlying57 sizeOf5 zeroValue5 rfl rfl rfl rfl rfl ?_)
  intro bb4 hb4 n4
  have nmb4 : ¬ M3 bb4 := fun hh => by have := st.lt _ hh; have := n4.at_; omega
  have w3 := w3.ext n4.ext
  have st := st.ext n4.ext
  have s4 : Sl r8 M3 hb4 (some ⟨bb4, 0, none⟩) 1 ([b] : List Int) := n4.sl nmb4 rfl (els_cons (by exact ⟨rfl, p_b⟩) els_nil)
  refine o1 rfl (s_app runUnderlying57 runUnderlying57 sizeOf5 typeInfo5 zeroValue5 rfl rfl rfl rfl rfl rfl w3 s4 (Nat.le_trans st.kp.size (Nat.le_refl _)) (by first | omega | (simp only [List.length_append, List.length_cons, List.length_nil]; omega)) ?_)
  intro a6 c6 hp6 ap6 wf6
  obtain ⟨M6, am6⟩ := am ap6 w3.mem
  have w6_ := wf6 M6 am6
  have st := st.app ap6 am6 (fun b hb => .inl (w3.ge b hb))
  have w6 := w6_
  refine r1 rfl (p_as rfl) ?_
  refine o_nil ?_
  refine x_seq ?_
  refine x_region ?_
  refine r1 rfl (p_mv rfl) ?_
  obtain ⟨M7, fz7, st7, s7⟩ := w6.fz st hN
  have st := st7
  refine o1 rfl (s_call call33 rfl (c_03Begins M7 hp6 st.lt (hh ++ [b]) s7) ?_)
  rintro _ hp8 ⟨rfl, x8⟩
  have s7 := s7.gr (.ext x8)
  have st := st.ext x8
  refine r1 rfl (p_as rfl) ?_
  refine o_nil ?_
  refine x_seq ?_
  refine x_seq ?_
  refine x_region ?_
  refine r1 rfl (p_mv rfl) ?_
  refine r1 rfl (p_gtr rfl rfl) ?_
  refine r1 rfl (p_mv rfl) ?_
  apply o_and 5 (dj := 20) (d := 25) rfl
  · intro hg3_3
    have hg3_3_ := hg3_3
    try simp only [Bool.and_eq_true, Bool.or_eq_true, Bool.not_eq_true', decide_eq_true_eq, decide_eq_false_iff_not, Bool.or_eq_false_iff, Bool.and_eq_false_iff] at hg3_3_
    refine r1h rfl rfl rfl hg3_3 (p_mv rfl) ?_
    refine r1h rfl rfl rfl hg3_3 (p_mv rfl) ?_
    refine r1h rfl rfl rfl hg3_3 (p_len runUnderlying57 rfl) ?_
    refine r1h rfl rfl rfl hg3_3 (p_gtr rfl rfl) ?_
    refine r1 rfl (p_pickt hg3_3 rfl rfl rfl) ?_
    exact o_nil ⟨rfl, rfl, by repeat (first | exact le_r _ | refine le_c rfl ?_)⟩
  · intro hg3_3
    refine o1n rfl rfl rfl hg3_3 ?_
    refine o1n rfl rfl rfl hg3_3 ?_
    refine o1n rfl rfl rfl hg3_3 ?_
    refine o1n rfl rfl rfl hg3_3 ?_
    refine r1 rfl (p_pickf hg3_3 rfl rfl rfl) ?_
    exact o_nil ⟨rfl, rfl, by repeat (first | exact le_r _ | refine le_c rfl ?_)⟩
  refine o_nil ?_
  refine x_cond rfl (fun h1 => ?_) (fun h1 => ?_)
  · skip
    try simp only [Bool.and_eq_true, Bool.or_eq_true, Bool.not_eq_true', decide_eq_true_eq, decide_eq_false_iff_not, Bool.or_eq_false_iff, Bool.and_eq_false_iff, Bool.not_eq_false'] at h1
    refine x_seq ?_
    refine x_region ?_
    refine r1 rfl (p_mv rfl) ?_
    refine r1 rfl (p_as rfl) ?_
    refine r1 rfl (p_as rfl) ?_
    refine o_nil ?_
    refine x_ret (fin2 rfl rfl ?_)
    have e : step0 b = ([], [] ++ hh ++ [b]) := by
      unfold step0; rw [if_pos (by simp [hh0] at h1; omega), hh0]; rfl
    rw [e]
    exact ⟨_, _, _, _, rfl, (Sl.nil (a := none) (cap := 0)), (s7.out st), st.x⟩
  · skip
    try simp only [Bool.and_eq_true, Bool.or_eq_true, Bool.not_eq_true', decide_eq_true_eq, decide_eq_false_iff_not, Bool.or_eq_false_iff, Bool.and_eq_false_iff, Bool.not_eq_false'] at h1
    refine x_skip ?_
    refine x_seq ?_
    refine x_seq ?_
    refine x_region ?_
    refine r1 rfl (p_mv rfl) ?_
    refine r1 rfl (p_gtr rfl rfl) ?_
    refine o_nil ?_
    refine x_cond rfl (fun h2 => ?_) (fun h2 => ?_)
    · skip
      try simp only [Bool.and_eq_true, Bool.or_eq_true, Bool.not_eq_true', decide_eq_true_eq, decide_eq_false_iff_not, Bool.or_eq_false_iff, Bool.and_eq_false_iff, Bool.not_eq_false'] at h2
      refine x_seq ?_
      refine x_region ?_
      refine r1 rfl (p_mv rfl) ?_
      refine o1 rfl (s_call call54 rfl (c_03whole M7 hp8 st.lt (hh ++ [b]) s7 (by simp [hh0])) ?_)
      rintro _ hp9 ⟨rfl, p9, x9⟩
      have st := st.ext x9
      refine o1 rfl (s_bs runUnderlying32 sizeOf21 zeroValue21 rfl rfl rfl rfl rfl ?_)
      intro bb10 hb10 n10
      have nmb10 : ¬ M7 bb10 := fun hh => by have := st.lt _ hh; have := n10.at_; omega
      have st := st.ext n10.ext
      have s10 : Sl r32 M7 hb10 (some ⟨bb10, 0, none⟩) 1 ([wholeF (hh ++ [b])] : List Int) := n10.sl nmb10 rfl (els_cons (by exact ⟨rfl, p9⟩) els_nil)
      refine r1 rfl (p_as rfl) ?_
      refine r1 rfl (p_as rfl) ?_
      refine o_nil ?_
      refine x_ret (fin2 rfl rfl ?_)
      have e : step0 b = ([wholeF ([] ++ hh ++ [b])], []) := by
        unfold step0; rw [if_neg (by simp [hh0] at h1 h2; omega), if_pos (by simp [hh0] at h2; omega), hh0]; rfl
      rw [e]
      exact ⟨_, _, _, _, rfl, (s10.out st), (Sl.nil (a := none) (cap := 0)), st.x⟩
    · skip
      try simp only [Bool.and_eq_true, Bool.or_eq_true, Bool.not_eq_true', decide_eq_true_eq, decide_eq_false_iff_not, Bool.or_eq_false_iff, Bool.and_eq_false_iff, Bool.not_eq_false'] at h2
      refine x_skip ?_
      refine x_seq ?_
      refine x_seq ?_
      refine x_region ?_
      refine r1 rfl (p_mv rfl) ?_
      refine r1 rfl (p_len runUnderlying57 rfl) ?_
      refine r1 rfl (p_eql rfl rfl) ?_
      refine o_nil ?_
      refine x_cond rfl (fun h3 => ?_) (fun h3 => ?_)
      · skip
        try simp only [Bool.and_eq_true, Bool.or_eq_true, Bool.not_eq_true', decide_eq_true_eq, decide_eq_false_iff_not, Bool.or_eq_false_iff, Bool.and_eq_false_iff, Bool.not_eq_false'] at h3
        refine x_seq ?_
        refine x_region ?_
        refine o1 rfl (s_bs runUnderlying32 sizeOf21 zeroValue21 rfl rfl rfl rfl rfl ?_)
        intro bb11 hb11 n11
        have nmb11 : ¬ M7 bb11 := fun hh => by have := st.lt _ hh; have := n11.at_; omega
        have st := st.ext n11.ext
        have s11 : Sl r32 M7 hb11 (some ⟨bb11, 0, none⟩) 1 ([65533] : List Int) := n11.sl nmb11 rfl (els_cons (by exact ⟨rfl, (by omega)⟩) els_nil)
        refine r1 rfl (p_as rfl) ?_
        refine r1 rfl (p_as rfl) ?_
        refine o_nil ?_
        refine x_ret (fin2 rfl rfl ?_)
        have e : step0 b = ([65533], []) := by
          unfold step0; rw [if_neg (by simp [hh0] at h2; omega), if_neg (by simp [hh0] at h2; omega)]
        rw [e]
        exact ⟨_, _, _, _, rfl, (s11.out st), (Sl.nil (a := none) (cap := 0)), st.x⟩
      · skip
        try simp only [Bool.and_eq_true, Bool.or_eq_true, Bool.not_eq_true', decide_eq_true_eq, decide_eq_false_iff_not, Bool.or_eq_false_iff, Bool.and_eq_false_iff, Bool.not_eq_false'] at h3
        simp [hh0] at h3
theorem c_03Step (N : Nat → Prop) (h : Hp) (hN : ∀ b, N b → b < h.size) (hh : List Int) (b : Int) {a_hh : Option Addr} {c_hh : Nat} (s_hh : Sl r8 N h a_hh c_hh hh) (p_b : BU8 b) (hlen : hh.length ≤ 1000000) : C prog 34 [.slice a_hh hh.length c_hh, .int .u8 b] h (fun v h' => ∃ (ar0 : Option Addr) (cr0 : Nat), ∃ (ar1 : Option Addr) (cr1 : Nat), v = .tuple #[.slice ar0 ((stepF hh b).1).length cr0, .slice ar1 ((stepF hh b).2).length cr1] ∧ Sl r32 N h' ar0 cr0 ((stepF hh b).1) ∧ Sl r8 N h' ar1 cr1 ((stepF hh b).2) ∧ Ext h h') := by
  have st := St.init hN
  have ns_hh := s_hh.ll
  refine enter func34 rfl ntmps34 results34 rfl rfl ?_
  refine x_seq ?_
  refine x_region ?_
  refine r1 rfl (p_as rfl) ?_
  refine r1 rfl (p_as rfl) ?_
  refine o_nil ?_
  refine x_seq ?_
  refine x_region ?_
  refine o1 rfl (s_bs0 runUnderlying57 sizeOf5 ?_)
  intro bb1 hb1 n1
  have st := st.ext n1.ext
  have s1 : Ow h.size 5 r8 N hb1 (some ⟨bb1, 0, none⟩) 0 [] := .nil
  refine r1 rfl (p_mv rfl) ?_
  refine o1 rfl (s_app runUnderlying57 runUnderlying57 sizeOf5 typeInfo5 zeroValue5 rfl rfl rfl rfl rfl rfl s1 (s_hh.gr st.gr) (Nat.le_trans st.kp.size (Nat.le_refl _)) (by first | omega | (simp only [List.length_append, List.length_cons, List.length_nil]; omega)) ?_)
  intro a3 c3 hp3 ap3 wf3
  obtain ⟨M3, am3⟩ := am ap3 s1.mem
  have w3_ := wf3 M3 am3
  have st := st.app ap3 am3 (fun b hb => .inl (s1.ge b hb))
  have w3 := w3_
  replace w3 : Ow h.size 5 r8 M3 hp3 a3 c3 hh := w3
  refine r1 rfl (p_mv rfl) ?_
  refine o1 rfl (s_bs runUnderlying57 sizeOf5 zeroValue5 rfl rfl rfl rfl rfl ?_)
  intro bb4 hb4 n4
  have nmb4 : ¬ M3 bb4 := fun hh => by have := st.lt _ hh; have := n4.at_; omega
  have w3 := w3.ext n4.ext
  have st := st.ext n4.ext
  have s4 : Sl r8 M3 hb4 (some ⟨bb4, 0, none⟩) 1 ([b] : List Int) := n4.sl nmb4 rfl (els_cons (by exact ⟨rfl, p_b⟩) els_nil)
  refine o1 rfl (s_app runUnderlying57 runUnderlying57 sizeOf5 typeInfo5 zeroValue5 rfl rfl rfl rfl rfl rfl w3 s4 (Nat.le_trans st.kp.size (Nat.le_refl _)) (by first | omega | (simp only [List.length_append, List.length_cons, List.length_nil]; omega)) ?_)
  intro a6 c6 hp6 ap6 wf6
  obtain ⟨M6, am6⟩ := am ap6 w3.mem
  have w6_ := wf6 M6 am6
  have st := st.app ap6 am6 (fun b hb => .inl (w3.ge b hb))
  have w6 := w6_
  refine r1 rfl (p_as rfl) ?_
  refine o_nil ?_
  refine x_seq ?_
  refine x_region ?_
  refine r1 rfl (p_mv rfl) ?_
  obtain ⟨M7, fz7, st7, s7⟩ := w6.fz st hN
  have st := st7
  refine o1 rfl (s_call call33 rfl (c_03Begins M7 hp6 st.lt (hh ++ [b]) s7) ?_)
  rintro _ hp8 ⟨rfl, x8⟩
  have s7 := s7.gr (.ext x8)
  have st := st.ext x8
  refine r1 rfl (p_as rfl) ?_
  refine o_nil ?_
  refine x_seq ?_
  refine x_seq ?_
  refine x_region ?_
  refine r1 rfl (p_mv rfl) ?_
  refine r1 rfl (p_gtr rfl rfl) ?_
  refine r1 rfl (p_mv rfl) ?_
  apply o_and 5 (dj := 20) (d := 25) rfl
  · intro hg3_3
    have hg3_3_ := hg3_3
    try simp only [Bool.and_eq_true, Bool.or_eq_true, Bool.not_eq_true', decide_eq_true_eq, decide_eq_false_iff_not, Bool.or_eq_false_iff, Bool.and_eq_false_iff] at hg3_3_
    refine r1h rfl rfl rfl hg3_3 (p_mv rfl) ?_
    refine r1h rfl rfl rfl hg3_3 (p_mv rfl) ?_
    refine r1h rfl rfl rfl hg3_3 (p_len runUnderlying57 rfl) ?_
    refine r1h rfl rfl rfl hg3_3 (p_gtr rfl rfl) ?_
    refine r1 rfl (p_pickt hg3_3 rfl rfl rfl) ?_
    exact o_nil ⟨rfl, rfl, by repeat (first | exact le_r _ | refine le_c rfl ?_)⟩
  · intro hg3_3
    refine o1n rfl rfl rfl hg3_3 ?_
    refine o1n rfl rfl rfl hg3_3 ?_
    refine o1n rfl rfl rfl hg3_3 ?_
    refine o1n rfl rfl rfl hg3_3 ?_
    refine r1 rfl (p_pickf hg3_3 rfl rfl rfl) ?_
    exact o_nil ⟨rfl, rfl, by repeat (first | exact le_r _ | refine le_c rfl ?_)⟩
  refine o_nil ?_
  refine x_cond rfl (fun h1 => ?_) (fun h1 => ?_)
  · skip
    try simp only [Bool.and_eq_true, Bool.or_eq_true, Bool.not_eq_true', decide_eq_true_eq, decide_eq_false_iff_not, Bool.or_eq_false_iff, Bool.and_eq_false_iff, Bool.not_eq_false'] at h1
    refine x_seq ?_
    refine x_region ?_
    refine r1 rfl (p_mv rfl) ?_
    refine r1 rfl (p_as rfl) ?_
    refine r1 rfl (p_as rfl) ?_
    refine o_nil ?_
    refine x_ret (fin2 rfl rfl ?_)
    have e : stepF hh b = ([], hh ++ [b]) := by
      unfold stepF; rw [if_pos (by (try simp at h1 ⊢); omega)]
    rw [e]
    exact ⟨_, _, _, _, rfl, (Sl.nil (a := none) (cap := 0)), (s7.out st), st.x⟩
  · skip
    try simp only [Bool.and_eq_true, Bool.or_eq_true, Bool.not_eq_true', decide_eq_true_eq, decide_eq_false_iff_not, Bool.or_eq_false_iff, Bool.and_eq_false_iff, Bool.not_eq_false'] at h1
    refine x_skip ?_
    refine x_seq ?_
    refine x_seq ?_
    refine x_region ?_
    refine r1 rfl (p_mv rfl) ?_
    refine r1 rfl (p_gtr rfl rfl) ?_
    refine o_nil ?_
    refine x_cond rfl (fun h2 => ?_) (fun h2 => ?_)
    · skip
      try simp only [Bool.and_eq_true, Bool.or_eq_true, Bool.not_eq_true', decide_eq_true_eq, decide_eq_false_iff_not, Bool.or_eq_false_iff, Bool.and_eq_false_iff, Bool.not_eq_false'] at h2
      refine x_seq ?_
      refine x_region ?_
      refine r1 rfl (p_mv rfl) ?_
      refine o1 rfl (s_call call54 rfl (c_03whole M7 hp8 st.lt (hh ++ [b]) s7 (by have := begins_len (by simpa using h2); simp at h1 h2 this ⊢; omega)) ?_)
      rintro _ hp9 ⟨rfl, p9, x9⟩
      have st := st.ext x9
      refine o1 rfl (s_bs runUnderlying32 sizeOf21 zeroValue21 rfl rfl rfl rfl rfl ?_)
      intro bb10 hb10 n10
      have nmb10 : ¬ M7 bb10 := fun hh => by have := st.lt _ hh; have := n10.at_; omega
      have st := st.ext n10.ext
      have s10 : Sl r32 M7 hb10 (some ⟨bb10, 0, none⟩) 1 ([wholeF (hh ++ [b])] : List Int) := n10.sl nmb10 rfl (els_cons (by exact ⟨rfl, p9⟩) els_nil)
      refine r1 rfl (p_as rfl) ?_
      refine r1 rfl (p_as rfl) ?_
      refine o_nil ?_
      refine x_ret (fin2 rfl rfl ?_)
      have e : stepF hh b = ([wholeF (hh ++ [b])], []) := by
        unfold stepF; rw [if_neg (by (try simp at h1 h2 ⊢); omega), if_pos (by (try simp at h2); omega)]
      rw [e]
      exact ⟨_, _, _, _, rfl, (s10.out st), (Sl.nil (a := none) (cap := 0)), st.x⟩
    · skip
      try simp only [Bool.and_eq_true, Bool.or_eq_true, Bool.not_eq_true', decide_eq_true_eq, decide_eq_false_iff_not, Bool.or_eq_false_iff, Bool.and_eq_false_iff, Bool.not_eq_false'] at h2
      refine x_skip ?_
      refine x_seq ?_
      refine x_seq ?_
      refine x_region ?_
      refine r1 rfl (p_mv rfl) ?_
      refine r1 rfl (p_len runUnderlying57 rfl) ?_
      refine r1 rfl (p_eql rfl rfl) ?_
      refine o_nil ?_
      refine x_cond rfl (fun h3 => ?_) (fun h3 => ?_)
      · skip
        try simp only [Bool.and_eq_true, Bool.or_eq_true, Bool.not_eq_true', decide_eq_true_eq, decide_eq_false_iff_not, Bool.or_eq_false_iff, Bool.and_eq_false_iff, Bool.not_eq_false'] at h3
        refine x_seq ?_
        refine x_region ?_
        refine o1 rfl (s_bs runUnderlying32 sizeOf21 zeroValue21 rfl rfl rfl rfl rfl ?_)
        intro bb11 hb11 n11
        have nmb11 : ¬ M7 bb11 := fun hh => by have := st.lt _ hh; have := n11.at_; omega
        have st := st.ext n11.ext
        have s11 : Sl r32 M7 hb11 (some ⟨bb11, 0, none⟩) 1 ([65533] : List Int) := n11.sl nmb11 rfl (els_cons (by exact ⟨rfl, (by omega)⟩) els_nil)
        refine r1 rfl (p_as rfl) ?_
        refine r1 rfl (p_as rfl) ?_
        refine o_nil ?_
        refine x_ret (fin2 rfl rfl ?_)
        have e0 : hh = [] := by simpa using h3
        have e : stepF hh b = ([65533], []) := by
          unfold stepF; rw [if_neg (by (try simp at h2 ⊢); omega), if_neg (by (try simp at h2); omega), if_pos e0]
        rw [e]
        exact ⟨_, _, _, _, rfl, (s11.out st), (Sl.nil (a := none) (cap := 0)), st.x⟩
      · skip
        try simp only [Bool.and_eq_true, Bool.or_eq_true, Bool.not_eq_true', decide_eq_true_eq, decide_eq_false_iff_not, Bool.or_eq_false_iff, Bool.and_eq_false_iff, Bool.not_eq_false'] at h3
        refine x_skip ?_
        refine x_seq ?_
        refine x_region ?_
        refine r1 rfl (p_mv rfl) ?_
        refine o1 rfl (s_call call34 rfl (c_03Step0 M7 hp8 st.lt ([] : List Int) b (Sl.nil (a := none) (cap := 0)) p_b rfl) ?_)
        rintro _ hp12 ⟨a12_0, c12_0, a12_1, c12_1, rfl, s12_0, s12_1, x12⟩
        have st := st.ext x12
        have ns12_0 := s12_0.ll
        have ns12_1 := s12_1.ll
        refine r1 rfl (p_mv rfl) ?_
        refine r1 rfl (p_ex rfl rfl) ?_
        refine r1 rfl (p_ex rfl rfl) ?_
        refine r1 rfl (p_as rfl) ?_
        refine r1 rfl (p_as rfl) ?_
        refine o_nil ?_
        refine x_seq ?_
        refine x_region ?_
        refine o1 rfl (s_bs runUnderlying32 sizeOf21 zeroValue21 rfl rfl rfl rfl rfl ?_)
        intro bb13 hb13 n13
        obtain ⟨M13, nm13⟩ := nm (M := M7) n13
        have w13 : Ow h.size 21 r32 M13 hb13 (some ⟨bb13, 0, none⟩) 1 ([65533] : List Int) := n13.ow nm13 (n13.ge st.kp) rfl ((els_cons (by exact ⟨rfl, (by omega)⟩) els_nil))
        have s12_0 := s12_0.gr (nm13.gr n13)
        have s12_1 := s12_1.gr (nm13.gr n13)
        have st := st.new n13 nm13
        refine r1 rfl (p_mv rfl) ?_
        refine o1 rfl (s_app runUnderlying32 runUnderlying32 sizeOf21 typeInfo21 zeroValue21 rfl rfl rfl rfl rfl rfl w13 s12_0 (Nat.le_trans st.kp.size (Nat.le_refl _)) (by have := (step0_len b).1; simp only [List.length_cons, List.length_nil]; omega) ?_)
        intro a15 c15 hp15 ap15 wf15
        obtain ⟨M15, am15⟩ := am ap15 w13.mem
        have w15_ := wf15 M15 am15
        have s12_1 := s12_1.gr (am15.gr ap15 w13.mem)
        have st := st.app ap15 am15 (fun b hb => .inl (w13.ge b hb))
        have w15 := w15_
        refine r1 rfl (p_mv rfl) ?_
        refine r1 rfl (p_as rfl) ?_
        refine r1 rfl (p_as rfl) ?_
        refine o_nil ?_
        refine x_ret (fin2 rfl rfl ?_)
        have e0 : ¬ hh = [] := by intro e; rw [e] at h3; simp at h3
        have e : stepF hh b = ([65533] ++ (step0 b).1, (step0 b).2) := by
          unfold stepF; rw [if_neg (by (try simp at h2 ⊢); omega), if_neg (by (try simp at h2); omega), if_neg e0]; rfl
        rw [e]
        exact ⟨_, _, _, _, rfl, (w15.out st hN), (s12_1.out st), st.x⟩

theorem stepF_len (h : List Int) (b : Int) : (stepF h b).1.length ≤ 2 ∧ (stepF h b).2.length ≤ h.length + 1 := by
  have := step0_len b
  unfold stepF
  split
  · simp
  · split
    · simp
    · split
      · simp
      · simp; omega
def feedF (h : List Int) : List Int → List Int × List Int
  | [] => ([], h)
  | b :: p => ((stepF h b).1 ++ (feedF (stepF h b).2 p).1, (feedF (stepF h b).2 p).2)
theorem feedF_append : ∀ (h p q : List Int), feedF h (p ++ q) = ((feedF h p).1 ++ (feedF (feedF h p).2 q).1, (feedF (feedF h p).2 q).2)
  | h, [], q => by simp [feedF]
  | h, b :: p, q => by simp only [List.cons_append, feedF, feedF_append _ p q, List.append_assoc]
theorem feedF_len : ∀ (h p : List Int), (feedF h p).1.length ≤ 2 * p.length ∧ (feedF h p).2.length ≤ h.length + p.length
  | h, [] => by simp [feedF]
  | h, b :: p => by
    have := feedF_len (stepF h b).2 p
    have := stepF_len h b
    simp only [feedF, List.length_append, List.length_cons]
    omega
theorem take_snoc {α : Type} [Inhabited α] {l : List α} {i : Nat} (h : i < l.length) : l.take (i + 1) = l.take i ++ [gt l (i : Int)] := by
  rw [List.take_succ_eq_append_getElem h, gt_lt h]
theorem c_03Feed (N : Nat → Prop) (h : Hp) (hN : ∀ b, N b → b < h.size) (hh : List Int) (p : List Int) {a_hh : Option Addr} {c_hh : Nat} {a_p : Option Addr} {c_p : Nat} (s_hh : Sl r8 N h a_hh c_hh hh) (s_p : Sl r8 N h a_p c_p p) (hlen : hh.length ≤ 100000) (plen : p.length ≤ 100000) : C prog 19 [.slice a_hh hh.length c_hh, .slice a_p p.length c_p] h (fun v h' => ∃ (ar0 : Option Addr) (cr0 : Nat), ∃ (ar1 : Option Addr) (cr1 : Nat), v = .tuple #[.slice ar0 ((feedF hh p).1).length cr0, .slice ar1 ((feedF hh p).2).length cr1] ∧ Sl r32 N h' ar0 cr0 ((feedF hh p).1) ∧ Sl r8 N h' ar1 cr1 ((feedF hh p).2) ∧ Ext h h') := by
  have st := St.init hN
  have ns_hh := s_hh.ll
  have ns_p := s_p.ll
  refine enter func19 rfl ntmps19 results19 rfl rfl ?_
  refine x_seq ?_
  refine x_region ?_
  refine r1 rfl (p_as rfl) ?_
  refine r1 rfl (p_as rfl) ?_
  refine o_nil ?_
  refine x_seq ?_
  refine x_region ?_
  refine r1 rfl (p_as rfl) ?_
  refine o_nil ?_
  refine x_seq ?_
  refine x_seq ?_
  refine x_region ?_
  refine r1 rfl (p_as rfl) ?_
  refine o_nil ?_
  refine x_block ?_
  refine x_loope (σ := Nat × (Option Addr) × Nat × (Option Addr) × Nat × (Nat → Prop)) (fun st_ E0 => match st_ with | (i, aL6, cL6, aL0, cL0, M_) => (7, .int .i64 (i : Int)) :: (6, .slice aL6 ((feedF hh (p.take i)).1).length cL6) :: (0, .slice aL0 ((feedF hh (p.take i)).2).length cL0) :: E0) [(1, _)] (fun st_ h' => match st_ with | (i, aL6, cL6, aL0, cL0, M_) => St N h (fun _ => False) M_ h' ∧ Ow h.size 21 r32 M_ h' aL6 cL6 ((feedF hh (p.take i)).1) ∧ Sl r8 M_ h' aL0 cL0 ((feedF hh (p.take i)).2) ∧ (i ≤ p.length)) (fun st_ => match st_ with | (i, aL6, cL6, aL0, cL0, M_) => p.length - i) (0, none, 0, a_hh, c_hh, N) ⟨⟨rfl, rfl, rfl, rfl, trivial⟩, rfl⟩ ?_ ?_
  · skip
    refine ⟨st, (Ow.nil (B := h.size) (T := 21) (r := r32) (M := N) (h := h) (a := none)), (s_hh.gr st.gr), ?_⟩
    · first | omega | assumption | (simp; done) | (simp; omega)
  rintro ⟨i, aL6, cL6, aL0, cL0, M_⟩ h' ⟨st, wL6, sL0, hi0⟩
  show X _ _ _ _ (_ :: _) _ _
  have nwL6 := wL6.len'
  have nsL0 := sL0.ll
  have hfl := feedF_len hh (p.take i)
  rw [List.length_take] at hfl
  refine x_seq ?_
  refine x_seq ?_
  refine x_region ?_
  refine r1 rfl (p_mv rfl) ?_
  refine r1 rfl (p_mv rfl) ?_
  refine r1 rfl (p_len runUnderlying33 rfl) ?_
  refine r1 rfl (p_lss rfl rfl) ?_
  refine o_nil ?_
  refine x_cond rfl (fun hc => ?_) (fun hc => ?_)
  · skip
    try simp only [Bool.and_eq_true, Bool.or_eq_true, Bool.not_eq_true', decide_eq_true_eq, decide_eq_false_iff_not, Bool.or_eq_false_iff, Bool.and_eq_false_iff, Bool.not_eq_false'] at hc
    have hlt : i < p.length := by omega
    have hsl := stepF_len (feedF hh (p.take i)).2 (gt p (i : Int))
    refine x_skip ?_
    refine x_seq ?_
    refine x_block ?_
    refine x_seq ?_
    refine x_region ?_
    refine r1 rfl (p_as rfl) ?_
    refine o_nil ?_
    refine x_seq ?_
    refine x_region ?_
    refine r1 rfl (p_mv rfl) ?_
    refine r1 rfl (p_mv rfl) ?_
    refine r1 rfl (p_mv rfl) ?_
    refine r1 rfl (p_idx runUnderlying33 sizeOf5 rfl rfl (by omega) ((s_p.gr st.gr).isi (i := (i : Int)) (by omega))) ?_
    obtain ⟨cs1, R1, C1⟩ := (s_p.gr st.gr).at_ ((i : Int)) (by omega)
    obtain ⟨rfl, p1⟩ := R1
    refine r1 rfl (p_ld isAgg5 rfl (C1 0 _ rfl)) ?_
    refine o1 rfl (s_call call34 rfl (c_03Step M_ h' st.lt ((feedF hh (p.take i)).2) (gt p (i : Int)) sL0 p1 (by first | omega | (simp only [List.length_append, List.length_cons, List.length_nil, List.length_map, List.length_take, List.length_drop, List.length_replicate]; omega))) ?_)
    rintro _ hp2 ⟨a2_0, c2_0, a2_1, c2_1, rfl, s2_0, s2_1, x2⟩
    have wL6 := wL6.ext x2
    have st := st.ext x2
    have ns2_0 := s2_0.ll
    have ns2_1 := s2_1.ll
    refine r1 rfl (p_mv rfl) ?_
    refine r1 rfl (p_ex rfl rfl) ?_
    refine r1 rfl (p_ex rfl rfl) ?_
    refine r1 rfl (p_as rfl) ?_
    refine r1 rfl (p_as rfl) ?_
    refine o_nil ?_
    refine x_region ?_
    refine r1 rfl (p_mv rfl) ?_
    refine r1 rfl (p_mv rfl) ?_
    refine o1 rfl (s_app runUnderlying32 runUnderlying32 sizeOf21 typeInfo21 zeroValue21 rfl rfl rfl rfl rfl rfl wL6 s2_0 (Nat.le_trans st.kp.size (Nat.le_refl _)) (by omega) ?_)
    intro a4 c4 hp4 ap4 wf4
    obtain ⟨M4, am4⟩ := am ap4 wL6.mem
    have w4_ := wf4 M4 am4
    have s2_1 := s2_1.gr (am4.gr ap4 wL6.mem)
    have st := st.app ap4 am4 (fun b hb => .inl (wL6.ge b hb))
    have w4 := w4_
    refine r1 rfl (p_as rfl) ?_
    refine o_nil ?_
    refine x_region ?_
    refine r1 rfl (p_mv rfl) ?_
    refine r1 rfl (p_add64 rfl rfl (by omega)) ?_
    refine r1 rfl (p_as rfl) ?_
    refine o_nil ?_
    have e := feedF_append hh (p.take i) [gt p (i : Int)]
    rw [← take_snoc hlt] at e
    simp only [feedF, List.append_nil] at e
    have te5 : ((feedF hh (p.take i)).1) ++ ((stepF ((feedF hh (p.take i)).2) (gt p (i : Int))).1) = (feedF hh (p.take (i + 1))).1 := (by rw [e])
    rw [te5] at w4
    try rw [te5]
    have te6 : (stepF ((feedF hh (p.take i)).2) (gt p (i : Int))).2 = (feedF hh (p.take (i + 1))).2 := (by rw [e])
    rw [te6] at s2_1
    try rw [te6]
    refine ⟨(i + 1, a4, c4, a2_1, c2_1, M4), ⟨⟨rfl, rfl, rfl, rfl, trivial⟩, rfl⟩, ?_, ?_⟩
    · skip
      refine ⟨st, w4, s2_1, ?_⟩
      · first | omega | assumption | (simp; done) | (simp; omega)
    · (try dsimp only); omega
  · skip
    try simp only [Bool.and_eq_true, Bool.or_eq_true, Bool.not_eq_true', decide_eq_true_eq, decide_eq_false_iff_not, Bool.or_eq_false_iff, Bool.and_eq_false_iff, Bool.not_eq_false'] at hc
    have ei : p.take i = p := List.take_of_length_le (by omega)
    have te7 : (feedF hh (p.take i)).1 = (feedF hh p).1 := (by rw [ei])
    rw [te7] at wL6
    try rw [te7]
    have te8 : (feedF hh (p.take i)).2 = (feedF hh p).2 := (by rw [ei])
    rw [te8] at sL0
    try rw [te8]
    refine x_exit ?_
    refine x_seq ?_
    refine x_region ?_
    refine r1 rfl (p_mv rfl) ?_
    refine r1 rfl (p_mv rfl) ?_
    refine r1 rfl (p_as rfl) ?_
    refine r1 rfl (p_as rfl) ?_
    refine o_nil ?_
    refine x_ret (fin2 rfl rfl ?_)
    exact ⟨_, _, _, _, rfl, (wL6.out st hN), (sL0.out st), st.x⟩
end Go.Proofs
