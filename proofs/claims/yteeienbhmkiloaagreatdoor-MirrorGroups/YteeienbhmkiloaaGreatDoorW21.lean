import Derived.Test.YteeienbhmkiloaaGreatDoorP3
set_option linter.unusedSimpArgs false
set_option linter.unusedVariables false
namespace Go.Proofs
open Go.Lx Tryz

theorem c_law (N : Nat → Prop) (h : Hp) (hN : ∀ b, N b → b < h.size) (l : List OpT) {a_l : Option Addr} {c_l : Nat} (s_l : Sl rOpT N h a_l c_l l) (gl : Gl GL N h) : C prog 3 [.slice a_l l.length c_l] h (fun v h' => v = .bool true ∧ Ext h h') := by
  have st := St.init hN
  have ns_l := s_l.ll
  have hbd := ops_bd s_l
  refine enter func3 rfl ntmps3 results3 rfl rfl ?_
  refine x_seq ?_
  refine x_region ?_
  refine r1 rfl (p_as rfl) ?_
  refine o_nil ?_
  refine x_seq ?_
  refine x_seq ?_
  refine x_region ?_
  refine o1 rfl (s_call call4 rfl (c_works N h st.lt (by exact gl.gr st.gr)) ?_)
  rintro _ hp1 ⟨rfl, x1⟩
  have st := st.ext x1
  refine r1 rfl (p_not rfl) ?_
  refine r1 rfl (p_mv rfl) ?_
  apply o_orx 3 (dj := 11) (d := 14) rfl
  · intro hg1_3
    have hg1_3_ := hg1_3
    try simp only [Bool.and_eq_true, Bool.or_eq_true, Bool.not_eq_true', decide_eq_true_eq, decide_eq_false_iff_not, Bool.or_eq_false_iff, Bool.and_eq_false_iff] at hg1_3_
    have xghg1_3 := Ext.refl hp1
    refine r1h rfl rfl rfl hg1_3 (p_mv rfl) ?_
    refine o1h rfl rfl rfl hg1_3 (s_call call5 rfl (c_Great N hp1 st.lt l (s_l.gr st.gr)) ?_)
    rintro _ hp2 ⟨rfl, x2⟩
    have st := st.ext x2
    have xghg1_3 := xghg1_3.trans (x2)
    refine r1 rfl (p_pickf hg1_3 rfl rfl rfl) ?_
    exact o_nil ⟨rfl, xghg1_3, by repeat (first | exact le_r _ | refine le_c rfl ?_)⟩
  · intro hg1_3
    refine o1n rfl rfl rfl hg1_3 ?_
    refine o1n rfl rfl rfl hg1_3 ?_
    refine r1 rfl (p_pickt hg1_3 rfl rfl rfl) ?_
    exact o_nil ⟨rfl, Ext.refl _, by repeat (first | exact le_r _ | refine le_c rfl ?_)⟩
  intro hx3 xx3
  have st := st.ext xx3
  refine o_nil ?_
  refine x_cond rfl (fun hg => ?_) (fun hg => ?_)
  · skip
    try simp only [Bool.and_eq_true, Bool.or_eq_true, Bool.not_eq_true', decide_eq_true_eq, decide_eq_false_iff_not, Bool.or_eq_false_iff, Bool.and_eq_false_iff, Bool.not_eq_false'] at hg
    refine x_seq ?_
    refine x_region ?_
    refine o1 rfl (s_call call4 rfl (c_works N hx3 st.lt (by exact gl.gr st.gr)) ?_)
    rintro _ hp4 ⟨rfl, x4⟩
    have st := st.ext x4
    refine r1 rfl (p_as rfl) ?_
    refine o_nil ?_
    refine x_ret (fin1 rfl ?_)
    exact ⟨rfl, st.x⟩
  · skip
    try simp only [Bool.and_eq_true, Bool.or_eq_true, Bool.not_eq_true', decide_eq_true_eq, decide_eq_false_iff_not, Bool.or_eq_false_iff, Bool.and_eq_false_iff, Bool.not_eq_false'] at hg
    have hgr : greatF l = false := by
      cases hh : greatF l with
      | false => rfl
      | true => rw [hh] at hg; simp at hg
    have hlb := great_no hgr
    have hall := rdrAll_inv hlb.2 hbd
    refine x_skip ?_
    refine x_seq ?_
    refine x_region ?_
    refine r1 rfl (p_mv rfl) ?_
    refine o1 rfl (s_call call6 rfl (c_Groups N hx3 st.lt l (s_l.gr st.gr) (by first | omega | (simp only [List.length_append, List.length_cons, List.length_nil, List.length_map, List.length_take, List.length_drop, List.length_replicate]; omega)) (by first | omega | (simp only [List.length_append, List.length_cons, List.length_nil, List.length_map, List.length_take, List.length_drop, List.length_replicate]; omega)) (by exact gl.gr st.gr)) ?_)
    rintro _ hp5 ⟨a5, c5, rfl, s5, x5⟩
    have st := st.ext x5
    have ns5 := s5.ll
    refine r1 rfl (p_as rfl) ?_
    refine o_nil ?_
    refine x_seq ?_
    refine x_region ?_
    refine o1 rfl (s_call call7 rfl (c_40New N hp5 st.lt 1 1) ?_)
    rintro _ hp6 ⟨a6_0_0, c6_0_0, a6_1, c6_1, a6_2, c6_2, rfl, s6_0_0, p6_0_1_0, p6_0_1_1, s6_1, s6_2, p6_3, x6⟩
    have s5 := s5.gr (.ext x6)
    have st := st.ext x6
    have ns6_0_0 := s6_0_0.ll
    have ns6_1 := s6_1.ll
    have ns6_2 := s6_2.ll
    refine o1 rfl (s_al zeroValue35 rfl ?_)
    intro b4 hb7 n7
    obtain ⟨M7, nm7⟩ := nm (M := N) n7
    have gb4 : h.size ≤ b4 := n7.ge st.kp
    have s5 := s5.gr (nm7.gr n7)
    have s6_0_0 := s6_0_0.gr (nm7.gr n7)
    have s6_1 := s6_1.gr (nm7.gr n7)
    have s6_2 := s6_2.gr (nm7.gr n7)
    have st := st.new n7 nm7
    have lb4 := n7.bl
    have mb4 := nm7.mem
    refine o0 (s_sta rfl rfl sizeOf35 rfl lb4 rfl ?_)
    intro hu8 u8
    have s5 := s5.gr (.upd u8 mb4)
    have s6_0_0 := s6_0_0.gr (.upd u8 mb4)
    have s6_1 := s6_1.gr (.upd u8 mb4)
    have s6_2 := s6_2.gr (.upd u8 mb4)
    have lb4 := u8.bl
    have st := st.upd u8 (.inl gb4)
    replace lb4 : Bl hu8 b4 [_, _, _, _, _, _, _, _] _ := lb4
    refine o_nil ?_
    refine x_seq ?_
    refine x_region ?_
    refine r1 rfl (p_as rfl) ?_
    refine o_nil ?_
    refine x_seq ?_
    refine x_seq ?_
    refine x_region ?_
    refine r1 rfl (p_as rfl) ?_
    refine o_nil ?_
    refine x_block ?_
    refine x_loope (σ := Nat × (Option Addr) × Nat × (Option Addr) × Nat × (Option Addr) × Nat × (Nat → Prop)) (fun st_ E0 => match st_ with | (i, aLb4_0, cLb4_0, aLb4_5, cLb4_5, aLb4_6, cLb4_6, M_) => (6, .int .i64 (i : Int)) :: (5, .int .i64 ((rdrAll (l.take i)).done.length : Int)) :: E0) [(0, _), (3, _), (4, _)] (fun st_ h' => match st_ with | (i, aLb4_0, cLb4_0, aLb4_5, cLb4_5, aLb4_6, cLb4_6, M_) => St N h (fun _ => False) M_ h' ∧ Sl rLine M_ h' aLb4_0 cLb4_0 (((newR 1 1).p).l) ∧ Sl r32 M_ h' aLb4_5 cLb4_5 ((rdrAll (l.take i)).cur) ∧ Sl r8 M_ h' aLb4_6 cLb4_6 ((rdrAll (l.take i)).raw) ∧ Sl (sl r32) M_ h' a5 c5 (groupsF l) ∧ Bl h' b4 [.slice aLb4_0 (((newR 1 1).p).l).length cLb4_0, .int .i64 0, .int .i64 0, .bool false, .bool true, .slice aLb4_5 ((rdrAll (l.take i)).cur).length cLb4_5, .slice aLb4_6 ((rdrAll (l.take i)).raw).length cLb4_6, .int .i64 ((rdrAll (l.take i)).came : Int)] 35 ∧ M_ b4 ∧ (i ≤ l.length)) (fun st_ => match st_ with | (i, aLb4_0, cLb4_0, aLb4_5, cLb4_5, aLb4_6, cLb4_6, M_) => l.length - i) (0, a6_0_0, c6_0_0, a6_1, c6_1, a6_2, c6_2, M7) ⟨⟨rfl, rfl, rfl, rfl, rfl, trivial⟩, rfl⟩ ?_ ?_
    · skip
      refine ⟨st, s6_0_0, s6_1, s6_2, s5, lb4, mb4, ?_⟩
      · omega
    rintro ⟨i, aLb4_0, cLb4_0, aLb4_5, cLb4_5, aLb4_6, cLb4_6, M_⟩ h' ⟨st, sLb4_0, sLb4_5, sLb4_6, s5, lb4, mb4, hi0⟩
    show X _ _ _ _ (_ :: _) _ _
    have nsLb4_0 := sLb4_0.ll
    have nsLb4_5 := sLb4_5.ll
    have nsLb4_6 := sLb4_6.ll
    have ri := hall i hi0
    have hrl := ri.rl
    have hcl := ri.cl
    have hcm : (rdrAll (l.take i)).came ≤ (rdrAll (l.take i)).raw.length := by rw [ri.came]; exact told_le _
    have hdn := rdrAll_done l i hi0
    have hi6 : i * 600 ≤ 30000 := by omega
    have hbl : bytesN (l.take i) ≤ bytesN l := by
      have h1 : bytesN l = bytesN (l.take i) + bytesN (l.drop i) := by
        unfold bytesN; rw [← List.sum_append, ← List.map_append, List.take_append_drop]
      omega
    refine x_seq ?_
    refine x_seq ?_
    refine x_region ?_
    refine r1 rfl (p_mv rfl) ?_
    refine r1 rfl (p_mv rfl) ?_
    refine r1 rfl (p_len runUnderlying22 rfl) ?_
    refine r1 rfl (p_lss rfl rfl) ?_
    refine o_nil ?_
    refine x_cond rfl (fun hc => ?_) (fun hc => ?_)
    · skip
      try simp only [Bool.and_eq_true, Bool.or_eq_true, Bool.not_eq_true', decide_eq_true_eq, decide_eq_false_iff_not, Bool.or_eq_false_iff, Bool.and_eq_false_iff, Bool.not_eq_false'] at hc
      have hlt : i < l.length := by omega
      have e1 : l.take (i + 1) = l.take i ++ [gt l (i : Int)] := by rw [gt_lt hlt]; exact List.take_succ_eq_append_getElem hlt
      have hlg : bytesN (l.take (i + 1)) ≤ bytesN l := by
        have h1 : bytesN l = bytesN (l.take (i + 1)) + bytesN (l.drop (i + 1)) := by
          unfold bytesN; rw [← List.sum_append, ← List.map_append, List.take_append_drop]
        omega
      rw [e1, bytesN_snoc] at hlg
      have ob : ∀ x ∈ (gt l (i : Int)).bytes, BU8 x := hbd _ (by rw [gt_lt hlt]; exact List.getElem_mem _)
      have eo : rdrAll (l.take (i + 1)) = rdrOp (rdrAll (l.take i)) (gt l (i : Int)) := by rw [e1, rdrAll_snoc]
      have hmb := mid_bd (o := gt l (i : Int)) ri
      refine x_skip ?_
      refine x_seq ?_
      refine x_block ?_
      refine x_seq ?_
      refine x_region ?_
      refine r1 rfl (p_mv rfl) ?_
      refine r1 rfl (p_mv rfl) ?_
      refine r1 rfl (p_idx runUnderlying22 sizeOf38 rfl rfl (by omega) ((s_l.gr st.gr).isi (i := (i : Int)) (by omega))) ?_
      obtain ⟨cs9, R9, C9⟩ := (s_l.gr st.gr).at_ ((i : Int)) (by omega)
      obtain ⟨a9_3, c9_3, rfl, p9_0, p9_1, p9_2, s9_3⟩ := R9
      have ns9_3 := s9_3.ll
      refine r1 rfl (p_lda isAgg38 rfl C9 sizeOf38) ?_
      refine o1 rfl (s_al zeroValue38 rfl ?_)
      intro b7 hb10 n10
      obtain ⟨M10, nm10⟩ := nm (M := M_) n10
      have gb7 : h.size ≤ b7 := n10.ge st.kp
      have neb7_b4 : b7 ≠ b4 := n10.ne lb4
      have s5 := s5.gr (nm10.gr n10)
      have s9_3 := s9_3.gr (nm10.gr n10)
      have sLb4_0 := sLb4_0.gr (nm10.gr n10)
      have sLb4_5 := sLb4_5.gr (nm10.gr n10)
      have sLb4_6 := sLb4_6.gr (nm10.gr n10)
      have lb4 := lb4.lift (n10.ext)
      have mb4 := nm10.sub _ mb4
      have st := st.new n10 nm10
      have lb7 := n10.bl
      have mb7 := nm10.mem
      refine o0 (s_sta rfl rfl sizeOf38 rfl lb7 rfl ?_)
      intro hu11 u11
      have s5 := s5.gr (.upd u11 mb7)
      have sLb4_0 := sLb4_0.gr (.upd u11 mb7)
      have sLb4_5 := sLb4_5.gr (.upd u11 mb7)
      have sLb4_6 := sLb4_6.gr (.upd u11 mb7)
      have s9_3 := s9_3.gr (.upd u11 mb7)
      have lb4 := u11.kp.bl (Ne.symm neb7_b4) lb4
      have lb7 := u11.bl
      have st := st.upd u11 (.inl gb7)
      replace lb7 : Bl hu11 b7 [_, _, _, _] _ := lb7
      refine o_nil ?_
      refine x_seq ?_
      refine x_region ?_
      refine r1 rfl (p_fld runUnderlying38 rfl sizeOf3 (by decide) rfl rfl) ?_
      refine r1 rfl (p_ld isAgg3 rfl (lb7.get rfl)) ?_
      refine r1 rfl (p_eql rfl rfl) ?_
      refine r1 rfl (p_mv rfl) ?_
      apply o_or 4 (dj := 32) (d := 36) rfl
      · intro hg10_4
        have hg10_4_ := hg10_4
        try simp only [Bool.and_eq_true, Bool.or_eq_true, Bool.not_eq_true', decide_eq_true_eq, decide_eq_false_iff_not, Bool.or_eq_false_iff, Bool.and_eq_false_iff] at hg10_4_
        refine r1h rfl rfl rfl hg10_4 (p_fld runUnderlying38 rfl sizeOf3 (by decide) rfl rfl) ?_
        refine r1h rfl rfl rfl hg10_4 (p_ld isAgg3 rfl (lb7.get rfl)) ?_
        refine r1h rfl rfl rfl hg10_4 (p_eql rfl rfl) ?_
        refine r1 rfl (p_pickf hg10_4 rfl rfl rfl) ?_
        exact o_nil ⟨rfl, rfl, by repeat (first | exact le_r _ | refine le_c rfl ?_)⟩
      · intro hg10_4
        refine o1n rfl rfl rfl hg10_4 ?_
        refine o1n rfl rfl rfl hg10_4 ?_
        refine o1n rfl rfl rfl hg10_4 ?_
        refine r1 rfl (p_pickt hg10_4 rfl rfl rfl) ?_
        exact o_nil ⟨rfl, rfl, by repeat (first | exact le_r _ | refine le_c rfl ?_)⟩
      refine r1 rfl (p_mv rfl) ?_
      apply o_orx 4 (dj := 37) (d := 41) rfl
      · intro hg10_9
        have hg10_9_ := hg10_9
        try simp only [Bool.and_eq_true, Bool.or_eq_true, Bool.not_eq_true', decide_eq_true_eq, decide_eq_false_iff_not, Bool.or_eq_false_iff, Bool.and_eq_false_iff] at hg10_9_
        have xghg10_9 := Ext.refl hu11
        refine r1h rfl rfl rfl hg10_9 (p_lda isAgg38 rfl (lb7.gets rfl) sizeOf38) ?_
        refine o1h rfl rfl rfl hg10_9 (s_call call8 rfl (c_38Wrong M10 hu11 st.lt (gt l (i : Int)) p9_0 p9_1 p9_2 s9_3) ?_)
        rintro _ hp12 ⟨rfl, x12⟩
        have s5 := s5.gr (.ext x12)
        have sLb4_0 := sLb4_0.gr (.ext x12)
        have sLb4_5 := sLb4_5.gr (.ext x12)
        have sLb4_6 := sLb4_6.gr (.ext x12)
        have s9_3 := s9_3.gr (.ext x12)
        have lb4 := lb4.lift (x12)
        have lb7 := lb7.lift (x12)
        have st := st.ext x12
        have xghg10_9 := xghg10_9.trans (x12)
        refine r1h rfl rfl rfl hg10_9 (p_eql rfl rfl) ?_
        refine r1 rfl (p_pickf hg10_9 rfl rfl rfl) ?_
        exact o_nil ⟨rfl, xghg10_9, by repeat (first | exact le_r _ | refine le_c rfl ?_)⟩
      · intro hg10_9
        refine o1n rfl rfl rfl hg10_9 ?_
        refine o1n rfl rfl rfl hg10_9 ?_
        refine o1n rfl rfl rfl hg10_9 ?_
        refine r1 rfl (p_pickt hg10_9 rfl rfl rfl) ?_
        exact o_nil ⟨rfl, Ext.refl _, by repeat (first | exact le_r _ | refine le_c rfl ?_)⟩
      intro hx13 xx13
      have s5 := s5.gr (.ext xx13)
      have sLb4_0 := sLb4_0.gr (.ext xx13)
      have sLb4_5 := sLb4_5.gr (.ext xx13)
      have sLb4_6 := sLb4_6.gr (.ext xx13)
      have s9_3 := s9_3.gr (.ext xx13)
      have lb4 := lb4.lift (xx13)
      have lb7 := lb7.lift (xx13)
      have st := st.ext xx13
      refine r1 rfl (p_as rfl) ?_
      refine o_nil ?_
      refine x_cute (σ := (Option Addr) × Nat × (Option Addr) × Nat × (Option Addr) × Nat × (Nat → Prop)) (fun st_ E0 => match st_ with | (aLb4_0, cLb4_0, aLb4_5, cLb4_5, aLb4_6, cLb4_6, M_) => E0) [(0, .slice a_l l.length c_l), (3, .slice a5 (groupsF l).length c5), (4, .pointer (some ⟨b4, 0, none⟩)), (5, .int .i64 ((rdrAll (l.take i)).done.length : Int)), (6, .int .i64 (i : Int)), (7, .pointer (some ⟨b7, 0, none⟩)), (8, .bool (((decide (((gt l (i : Int)).kind) = 1)) || (decide (((gt l (i : Int)).kind) = 13))) || (decide ((wrongF (gt l (i : Int))) = 0))))] (fun st_ h' => match st_ with | (aLb4_0, cLb4_0, aLb4_5, cLb4_5, aLb4_6, cLb4_6, M_) => St N h (fun _ => False) M_ h' ∧ Sl rLine M_ h' aLb4_0 cLb4_0 (((newR 1 1).p).l) ∧ Sl r32 M_ h' aLb4_5 cLb4_5 ((midA (rdrAll (l.take i)) (gt l (i : Int))).cur) ∧ Sl r8 M_ h' aLb4_6 cLb4_6 ((midA (rdrAll (l.take i)) (gt l (i : Int))).raw) ∧ Sl (sl r32) M_ h' a5 c5 (groupsF l) ∧ Sl r8 M_ h' a9_3 c9_3 ((gt l (i : Int)).bytes) ∧ Bl h' b4 [.slice aLb4_0 (((newR 1 1).p).l).length cLb4_0, .int .i64 0, .int .i64 0, .bool false, .bool true, .slice aLb4_5 ((midA (rdrAll (l.take i)) (gt l (i : Int))).cur).length cLb4_5, .slice aLb4_6 ((midA (rdrAll (l.take i)) (gt l (i : Int))).raw).length cLb4_6, .int .i64 ((midA (rdrAll (l.take i)) (gt l (i : Int))).came : Int)] 35 ∧ M_ b4 ∧ Bl h' b7 [.int .i64 ((gt l (i : Int)).kind), .int .i64 ((gt l (i : Int)).a), .int .i64 ((gt l (i : Int)).b), .slice a9_3 ((gt l (i : Int)).bytes).length c9_3] 38 ∧ M_ b7) ?_ ?_
      · skip
        refine x_seq ?_
        refine x_region ?_
        refine r1 rfl (p_fld runUnderlying38 rfl sizeOf3 (by decide) rfl rfl) ?_
        refine r1 rfl (p_ld isAgg3 rfl (lb7.get rfl)) ?_
        refine r1 rfl (p_eql rfl rfl) ?_
        refine o_nil ?_
        refine x_cond rfl (fun hk0 => ?_) (fun hk0 => ?_)
        · skip
          try simp only [Bool.and_eq_true, Bool.or_eq_true, Bool.not_eq_true', decide_eq_true_eq, decide_eq_false_iff_not, Bool.or_eq_false_iff, Bool.and_eq_false_iff, Bool.not_eq_false'] at hk0
          have bm := bytes_mid (r := rdrAll (l.take i)) (o := gt l (i : Int)) (p := ⟨((newR 1 1).p).l, ⟨0, 0, false⟩, true⟩) hk0 ri.raw ob
          refine x_region ?_
          refine r1 rfl (p_lda isAgg35 rfl (lb4.gets rfl) sizeOf35) ?_
          refine r1 rfl (p_fld runUnderlying38 rfl sizeOf33 (by decide) rfl rfl) ?_
          refine r1 rfl (p_ld isAgg33 rfl (lb7.get rfl)) ?_
          refine o1 rfl (s_call call9 rfl (c_37Bytes M10 hx13 st.lt (⟨⟨((newR 1 1).p).l, ⟨0, 0, false⟩, true⟩, (rdrAll (l.take i)).cur, (rdrAll (l.take i)).raw, ((rdrAll (l.take i)).came : Int)⟩ : FeedR) ((gt l (i : Int)).bytes) sLb4_0 (by first | omega | (dsimp only; omega)) (by first | omega | (dsimp only; omega)) sLb4_5 sLb4_6 (by first | omega | (dsimp only; omega)) s9_3 (by first | omega | (simp only [List.length_append, List.length_cons, List.length_nil, List.length_map, List.length_take, List.length_drop, List.length_replicate]; omega)) (by first | omega | (simp only [List.length_append, List.length_cons, List.length_nil, List.length_map, List.length_take, List.length_drop, List.length_replicate]; omega)) (by first | omega | (simp only [List.length_append, List.length_cons, List.length_nil, List.length_map, List.length_take, List.length_drop, List.length_replicate]; omega))) ?_)
          rintro _ hp14 ⟨a14_0_0, c14_0_0, a14_1, c14_1, a14_2, c14_2, rfl, s14_0_0, p14_0_1_0, p14_0_1_1, s14_1, s14_2, p14_3, x14⟩
          have s5 := s5.gr (.ext x14)
          have sLb4_0 := sLb4_0.gr (.ext x14)
          have sLb4_5 := sLb4_5.gr (.ext x14)
          have sLb4_6 := sLb4_6.gr (.ext x14)
          have s9_3 := s9_3.gr (.ext x14)
          have lb4 := lb4.lift (x14)
          have lb7 := lb7.lift (x14)
          have st := st.ext x14
          have ns14_0_0 := s14_0_0.ll
          have ns14_1 := s14_1.ll
          have ns14_2 := s14_2.ll
          refine o0 (s_sta rfl rfl sizeOf35 rfl lb4 rfl ?_)
          intro hu15 u15
          have s5 := s5.gr (.upd u15 mb4)
          have s14_0_0 := s14_0_0.gr (.upd u15 mb4)
          have s14_1 := s14_1.gr (.upd u15 mb4)
          have s14_2 := s14_2.gr (.upd u15 mb4)
          have s9_3 := s9_3.gr (.upd u15 mb4)
          have lb4 := u15.bl
          have lb7 := u15.kp.bl neb7_b4 lb7
          have st := st.upd u15 (.inl gb4)
          replace lb4 : Bl hu15 b4 [_, _, _, _, _, _, _, _] _ := lb4
          refine o_nil ?_
          have te16 : (bytesF (⟨⟨((newR 1 1).p).l, ⟨0, 0, false⟩, true⟩, (rdrAll (l.take i)).cur, (rdrAll (l.take i)).raw, ((rdrAll (l.take i)).came : Int)⟩ : FeedR) ((gt l (i : Int)).bytes)).group = (midA (rdrAll (l.take i)) (gt l (i : Int))).cur := bm.1
          rw [te16] at s14_1
          try rw [te16]
          try rw [te16] at lb4
          have te17 : (bytesF (⟨⟨((newR 1 1).p).l, ⟨0, 0, false⟩, true⟩, (rdrAll (l.take i)).cur, (rdrAll (l.take i)).raw, ((rdrAll (l.take i)).came : Int)⟩ : FeedR) ((gt l (i : Int)).bytes)).raw = (midA (rdrAll (l.take i)) (gt l (i : Int))).raw := bm.2.1
          rw [te17] at s14_2
          try rw [te17]
          try rw [te17] at lb4
          have te18 : (bytesF (⟨⟨((newR 1 1).p).l, ⟨0, 0, false⟩, true⟩, (rdrAll (l.take i)).cur, (rdrAll (l.take i)).raw, ((rdrAll (l.take i)).came : Int)⟩ : FeedR) ((gt l (i : Int)).bytes)).parts = ((midA (rdrAll (l.take i)) (gt l (i : Int))).came : Int) := bm.2.2
          try rw [te18]
          try rw [te18] at lb4
          refine ⟨(a14_0_0, c14_0_0, a14_1, c14_1, a14_2, c14_2, M10), ⟨⟨rfl, rfl, rfl, rfl, rfl, rfl, rfl, trivial⟩, rfl⟩, ?_⟩
          · skip
            refine ⟨st, s14_0_0, s14_1, s14_2, s5, s9_3, lb4, mb4, lb7, mb7⟩
        · skip
          try simp only [Bool.and_eq_true, Bool.or_eq_true, Bool.not_eq_true', decide_eq_true_eq, decide_eq_false_iff_not, Bool.or_eq_false_iff, Bool.and_eq_false_iff, Bool.not_eq_false'] at hk0
          have bm : midA (rdrAll (l.take i)) (gt l (i : Int)) = rdrAll (l.take i) := by unfold midA; rw [if_neg hk0]
          refine x_skip ?_
          have te19 : (rdrAll (l.take i)).cur = (midA (rdrAll (l.take i)) (gt l (i : Int))).cur := (by rw [bm])
          rw [te19] at sLb4_5
          try rw [te19]
          try rw [te19] at lb4
          have te20 : (rdrAll (l.take i)).raw = (midA (rdrAll (l.take i)) (gt l (i : Int))).raw := (by rw [bm])
          rw [te20] at sLb4_6
          try rw [te20]
          try rw [te20] at lb4
          have te21 : ((rdrAll (l.take i)).came : Int) = ((midA (rdrAll (l.take i)) (gt l (i : Int))).came : Int) := (by rw [bm])
          try rw [te21]
          try rw [te21] at lb4
          refine ⟨(aLb4_0, cLb4_0, aLb4_5, cLb4_5, aLb4_6, cLb4_6, M10), ⟨⟨rfl, rfl, rfl, rfl, rfl, rfl, rfl, trivial⟩, rfl⟩, ?_⟩
          · skip
            refine ⟨st, sLb4_0, sLb4_5, sLb4_6, s5, s9_3, lb4, mb4, lb7, mb7⟩
      · skip
        rintro ⟨aLb4_0, cLb4_0, aLb4_5, cLb4_5, aLb4_6, cLb4_6, M_⟩ h' ⟨st, sLb4_0, sLb4_5, sLb4_6, s5, s9_3, lb4, mb4, lb7, mb7⟩
        dsimp only
        have nsLb4_0 := sLb4_0.ll
        have nsLb4_5 := sLb4_5.ll
        have nsLb4_6 := sLb4_6.ll
        refine x_cute (σ := (Option Addr) × Nat × (Option Addr) × Nat × (Option Addr) × Nat × (Nat → Prop)) (fun st_ E0 => match st_ with | (aLb4_0, cLb4_0, aLb4_5, cLb4_5, aLb4_6, cLb4_6, M_) => E0) [(0, .slice a_l l.length c_l), (3, .slice a5 (groupsF l).length c5), (4, .pointer (some ⟨b4, 0, none⟩)), (5, .int .i64 ((rdrAll (l.take i)).done.length : Int)), (6, .int .i64 (i : Int)), (7, .pointer (some ⟨b7, 0, none⟩)), (8, .bool (((decide (((gt l (i : Int)).kind) = 1)) || (decide (((gt l (i : Int)).kind) = 13))) || (decide ((wrongF (gt l (i : Int))) = 0))))] (fun st_ h' => match st_ with | (aLb4_0, cLb4_0, aLb4_5, cLb4_5, aLb4_6, cLb4_6, M_) => St N h (fun _ => False) M_ h' ∧ Sl rLine M_ h' aLb4_0 cLb4_0 (((newR 1 1).p).l) ∧ Sl r32 M_ h' aLb4_5 cLb4_5 ((rdrRead (rdrAll (l.take i)) (gt l (i : Int))).cur) ∧ Sl r8 M_ h' aLb4_6 cLb4_6 ((midA (rdrAll (l.take i)) (gt l (i : Int))).raw) ∧ Sl (sl r32) M_ h' a5 c5 (groupsF l) ∧ Sl r8 M_ h' a9_3 c9_3 ((gt l (i : Int)).bytes) ∧ Bl h' b4 [.slice aLb4_0 (((newR 1 1).p).l).length cLb4_0, .int .i64 0, .int .i64 0, .bool false, .bool true, .slice aLb4_5 ((rdrRead (rdrAll (l.take i)) (gt l (i : Int))).cur).length cLb4_5, .slice aLb4_6 ((midA (rdrAll (l.take i)) (gt l (i : Int))).raw).length cLb4_6, .int .i64 ((midA (rdrAll (l.take i)) (gt l (i : Int))).came : Int)] 35 ∧ M_ b4 ∧ Bl h' b7 [.int .i64 ((gt l (i : Int)).kind), .int .i64 ((gt l (i : Int)).a), .int .i64 ((gt l (i : Int)).b), .slice a9_3 ((gt l (i : Int)).bytes).length c9_3] 38 ∧ M_ b7) ?_ ?_
        · skip
          refine x_seq ?_
          refine x_region ?_
          refine r1 rfl (p_fld runUnderlying38 rfl sizeOf3 (by decide) rfl rfl) ?_
          refine r1 rfl (p_ld isAgg3 rfl (lb7.get rfl)) ?_
          refine r1 rfl (p_eql rfl rfl) ?_
          refine r1 rfl (p_mv rfl) ?_
          apply o_andx 4 (dj := 52) (d := 56) rfl
          · intro hg13_4
            have hg13_4_ := hg13_4
            try simp only [Bool.and_eq_true, Bool.or_eq_true, Bool.not_eq_true', decide_eq_true_eq, decide_eq_false_iff_not, Bool.or_eq_false_iff, Bool.and_eq_false_iff] at hg13_4_
            have xghg13_4 := Ext.refl h'
            refine r1h rfl rfl rfl hg13_4 (p_lda isAgg35 rfl (lb4.gets rfl) sizeOf35) ?_
            refine o1h rfl rfl rfl hg13_4 (s_call call10 rfl (c_37Held M_ h' st.lt (⟨⟨((newR 1 1).p).l, ⟨0, 0, false⟩, true⟩, (midA (rdrAll (l.take i)) (gt l (i : Int))).cur, (midA (rdrAll (l.take i)) (gt l (i : Int))).raw, ((midA (rdrAll (l.take i)) (gt l (i : Int))).came : Int)⟩ : FeedR) sLb4_0 (by first | omega | (dsimp only; omega)) (by first | omega | (dsimp only; omega)) sLb4_5 sLb4_6 (by first | omega | (dsimp only; omega)) (by first | omega | (simp only [List.length_append, List.length_cons, List.length_nil, List.length_map, List.length_take, List.length_drop, List.length_replicate]; omega))) ?_)
            rintro _ hp22 ⟨rfl, x22⟩
            have s5 := s5.gr (.ext x22)
            have sLb4_0 := sLb4_0.gr (.ext x22)
            have sLb4_5 := sLb4_5.gr (.ext x22)
            have sLb4_6 := sLb4_6.gr (.ext x22)
            have s9_3 := s9_3.gr (.ext x22)
            have lb4 := lb4.lift (x22)
            have lb7 := lb7.lift (x22)
            have st := st.ext x22
            have xghg13_4 := xghg13_4.trans (x22)
            refine r1h rfl rfl rfl hg13_4 (p_gtr rfl rfl) ?_
            refine r1 rfl (p_pickt hg13_4 rfl rfl rfl) ?_
            exact o_nil ⟨rfl, xghg13_4, by repeat (first | exact le_r _ | refine le_c rfl ?_)⟩
          · intro hg13_4
            refine o1n rfl rfl rfl hg13_4 ?_
            refine o1n rfl rfl rfl hg13_4 ?_
            refine o1n rfl rfl rfl hg13_4 ?_
            refine r1 rfl (p_pickf hg13_4 rfl rfl rfl) ?_
            exact o_nil ⟨rfl, Ext.refl _, by repeat (first | exact le_r _ | refine le_c rfl ?_)⟩
          intro hx23 xx23
          have s5 := s5.gr (.ext xx23)
          have sLb4_0 := sLb4_0.gr (.ext xx23)
          have sLb4_5 := sLb4_5.gr (.ext xx23)
          have sLb4_6 := sLb4_6.gr (.ext xx23)
          have s9_3 := s9_3.gr (.ext xx23)
          have lb4 := lb4.lift (xx23)
          have lb7 := lb7.lift (xx23)
          have st := st.ext xx23
          refine o_nil ?_
          refine x_cond rfl (fun hk1 => ?_) (fun hk1 => ?_)
          · skip
            try simp only [Bool.and_eq_true, Bool.or_eq_true, Bool.not_eq_true', decide_eq_true_eq, decide_eq_false_iff_not, Bool.or_eq_false_iff, Bool.and_eq_false_iff, Bool.not_eq_false'] at hk1
            have hr1 := read_one (o := gt l (i : Int)) ri hk1.1
            have hm1 := mid_one (r := rdrAll (l.take i)) hk1.1
            rw [hm1] at hk1
            rw [if_pos hk1.2] at hr1
            refine x_region ?_
            refine r1 rfl (p_lda isAgg35 rfl (lb4.gets rfl) sizeOf35) ?_
            refine o1 rfl (s_call call11 rfl (c_37Rune M_ hx23 st.lt (⟨⟨((newR 1 1).p).l, ⟨0, 0, false⟩, true⟩, (midA (rdrAll (l.take i)) (gt l (i : Int))).cur, (midA (rdrAll (l.take i)) (gt l (i : Int))).raw, ((midA (rdrAll (l.take i)) (gt l (i : Int))).came : Int)⟩ : FeedR) 65533 sLb4_0 (by first | omega | (dsimp only; omega)) (by first | omega | (dsimp only; omega)) sLb4_5 sLb4_6 (by first | omega | (dsimp only; omega)) (by omega) (by first | omega | (simp only [List.length_append, List.length_cons, List.length_nil, List.length_map, List.length_take, List.length_drop, List.length_replicate]; omega))) ?_)
            rintro _ hp24 ⟨a24_0_0, c24_0_0, a24_1, c24_1, a24_2, c24_2, rfl, s24_0_0, p24_0_1_0, p24_0_1_1, s24_1, s24_2, p24_3, x24⟩
            have s5 := s5.gr (.ext x24)
            have sLb4_0 := sLb4_0.gr (.ext x24)
            have sLb4_5 := sLb4_5.gr (.ext x24)
            have sLb4_6 := sLb4_6.gr (.ext x24)
            have s9_3 := s9_3.gr (.ext x24)
            have lb4 := lb4.lift (x24)
            have lb7 := lb7.lift (x24)
            have st := st.ext x24
            have ns24_0_0 := s24_0_0.ll
            have ns24_1 := s24_1.ll
            have ns24_2 := s24_2.ll
            refine o0 (s_sta rfl rfl sizeOf35 rfl lb4 rfl ?_)
            intro hu25 u25
            have s5 := s5.gr (.upd u25 mb4)
            have s24_0_0 := s24_0_0.gr (.upd u25 mb4)
            have s24_1 := s24_1.gr (.upd u25 mb4)
            have s24_2 := s24_2.gr (.upd u25 mb4)
            have s9_3 := s9_3.gr (.upd u25 mb4)
            have lb4 := u25.bl
            have lb7 := u25.kp.bl neb7_b4 lb7
            have st := st.upd u25 (.inl gb4)
            replace lb4 : Bl hu25 b4 [_, _, _, _, _, _, _, _] _ := lb4
            refine o_nil ?_
            have te26 : ({ (⟨⟨((newR 1 1).p).l, ⟨0, 0, false⟩, true⟩, (midA (rdrAll (l.take i)) (gt l (i : Int))).cur, (midA (rdrAll (l.take i)) (gt l (i : Int))).raw, ((midA (rdrAll (l.take i)) (gt l (i : Int))).came : Int)⟩ : FeedR) with group := (⟨⟨((newR 1 1).p).l, ⟨0, 0, false⟩, true⟩, (midA (rdrAll (l.take i)) (gt l (i : Int))).cur, (midA (rdrAll (l.take i)) (gt l (i : Int))).raw, ((midA (rdrAll (l.take i)) (gt l (i : Int))).came : Int)⟩ : FeedR).group ++ [if valid 65533 then 65533 else 65533] } : FeedR).group = (rdrRead (rdrAll (l.take i)) (gt l (i : Int))).cur := (by rw [hr1, hm1]; rfl)
            rw [te26] at s24_1
            try rw [te26]
            try rw [te26] at lb4
            refine ⟨(a24_0_0, c24_0_0, a24_1, c24_1, a24_2, c24_2, M_), ⟨⟨rfl, rfl, rfl, rfl, rfl, rfl, rfl, trivial⟩, rfl⟩, ?_⟩
            · skip
              refine ⟨st, s24_0_0, s24_1, s24_2, s5, s9_3, lb4, mb4, lb7, mb7⟩
          · skip
            try simp only [Bool.and_eq_true, Bool.or_eq_true, Bool.not_eq_true', decide_eq_true_eq, decide_eq_false_iff_not, Bool.or_eq_false_iff, Bool.and_eq_false_iff, Bool.not_eq_false'] at hk1
            have hr1 : (rdrRead (rdrAll (l.take i)) (gt l (i : Int))).cur = (midA (rdrAll (l.take i)) (gt l (i : Int))).cur := by
              by_cases hk : (gt l (i : Int)).kind = 1
              · have hr1 := read_one (o := gt l (i : Int)) ri hk
                have hm1 := mid_one (r := rdrAll (l.take i)) hk
                rw [hm1] at hk1
                rw [hr1, hm1, if_neg (by omega)]
              · rw [read_mid hk]
            refine x_skip ?_
            have te27 : (midA (rdrAll (l.take i)) (gt l (i : Int))).cur = (rdrRead (rdrAll (l.take i)) (gt l (i : Int))).cur := hr1.symm
            rw [te27] at sLb4_5
            try rw [te27]
            try rw [te27] at lb4
            refine ⟨(aLb4_0, cLb4_0, aLb4_5, cLb4_5, aLb4_6, cLb4_6, M_), ⟨⟨rfl, rfl, rfl, rfl, rfl, rfl, rfl, trivial⟩, rfl⟩, ?_⟩
            · skip
              refine ⟨st, sLb4_0, sLb4_5, sLb4_6, s5, s9_3, lb4, mb4, lb7, mb7⟩
        · skip
          rintro ⟨aLb4_0, cLb4_0, aLb4_5, cLb4_5, aLb4_6, cLb4_6, M_⟩ h' ⟨st, sLb4_0, sLb4_5, sLb4_6, s5, s9_3, lb4, mb4, lb7, mb7⟩
          dsimp only
          have nsLb4_0 := sLb4_0.ll
          have nsLb4_5 := sLb4_5.ll
          have nsLb4_6 := sLb4_6.ll
          refine x_cute (σ := (Option Addr) × Nat × (Option Addr) × Nat × (Option Addr) × Nat × (Nat → Prop)) (fun st_ E0 => match st_ with | (aLb4_0, cLb4_0, aLb4_5, cLb4_5, aLb4_6, cLb4_6, M_) => (5, .int .i64 ((rdrOp (rdrAll (l.take i)) (gt l (i : Int))).done.length : Int)) :: E0) [(0, .slice a_l l.length c_l), (3, .slice a5 (groupsF l).length c5), (4, .pointer (some ⟨b4, 0, none⟩)), (6, .int .i64 (i : Int)), (7, .pointer (some ⟨b7, 0, none⟩))] (fun st_ h' => match st_ with | (aLb4_0, cLb4_0, aLb4_5, cLb4_5, aLb4_6, cLb4_6, M_) => St N h (fun _ => False) M_ h' ∧ Sl rLine M_ h' aLb4_0 cLb4_0 (((newR 1 1).p).l) ∧ Sl r32 M_ h' aLb4_5 cLb4_5 ((rdrOp (rdrAll (l.take i)) (gt l (i : Int))).cur) ∧ Sl r8 M_ h' aLb4_6 cLb4_6 ((midA (rdrAll (l.take i)) (gt l (i : Int))).raw) ∧ Sl (sl r32) M_ h' a5 c5 (groupsF l) ∧ Sl r8 M_ h' a9_3 c9_3 ((gt l (i : Int)).bytes) ∧ Bl h' b4 [.slice aLb4_0 (((newR 1 1).p).l).length cLb4_0, .int .i64 0, .int .i64 0, .bool false, .bool true, .slice aLb4_5 ((rdrOp (rdrAll (l.take i)) (gt l (i : Int))).cur).length cLb4_5, .slice aLb4_6 ((midA (rdrAll (l.take i)) (gt l (i : Int))).raw).length cLb4_6, .int .i64 ((midA (rdrAll (l.take i)) (gt l (i : Int))).came : Int)] 35 ∧ M_ b4 ∧ Bl h' b7 [.int .i64 ((gt l (i : Int)).kind), .int .i64 ((gt l (i : Int)).a), .int .i64 ((gt l (i : Int)).b), .slice a9_3 ((gt l (i : Int)).bytes).length c9_3] 38 ∧ M_ b7) ?_ ?_
          · skip
            refine x_seq ?_
            refine x_region ?_
            refine r1 rfl (p_mv rfl) ?_
            refine o_nil ?_
            refine x_cond rfl (fun hcl1 => ?_) (fun hcl1 => ?_)
            · skip
              try simp only [Bool.and_eq_true, Bool.or_eq_true, Bool.not_eq_true', decide_eq_true_eq, decide_eq_false_iff_not, Bool.or_eq_false_iff, Bool.and_eq_false_iff, Bool.not_eq_false'] at hcl1
              have hcc : closesF (gt l (i : Int)) = true := by unfold closesF; simp only [Bool.or_eq_true, decide_eq_true_eq]; exact hcl1
              have hga := groups_at hlt hcc
              have hoy := op_yes (r := (rdrAll (l.take i))) hcc
              refine x_seq ?_
              refine x_seq ?_
              refine x_regq (by kernel_rfl) (by kernel_rfl) ?_
              refine y1 rfl (zp fun hq xq => (p_mv rfl)) ?_
              refine y1 rfl (zp fun hq xq => (p_mv rfl)) ?_
              refine y1 rfl (zp fun hq xq => (p_len runUnderlying25 rfl)) ?_
              refine y1 rfl (zp fun hq xq => (p_geq rfl rfl)) ?_
              refine y1 rfl (zp fun hq xq => (p_mv rfl)) ?_
              apply y_or 9 (dj := 64) (d := 73) rfl
              · intro hg16_5
                have hg16_5_ := hg16_5
                try simp only [Bool.and_eq_true, Bool.or_eq_true, Bool.not_eq_true', decide_eq_true_eq, decide_eq_false_iff_not, Bool.or_eq_false_iff, Bool.and_eq_false_iff] at hg16_5_
                refine y1h rfl rfl rfl hg16_5 (zp fun hq xq => (p_mv rfl)) ?_
                refine y1h rfl rfl rfl hg16_5 (zp fun hq xq => (p_mv rfl)) ?_
                refine y1h rfl rfl rfl hg16_5 (zp fun hq xq => (p_idx runUnderlying25 sizeOf32 rfl rfl (by have := hga.1; omega) (s5.isi (i := ((rdrAll (l.take i)).done.length : Int)) (by have := hga.1; omega)))) ?_
                obtain ⟨cs28, R28, C28⟩ := s5.at_ (((rdrAll (l.take i)).done.length : Int)) (by have := hga.1; omega)
                obtain ⟨a28, c28, rfl, s28⟩ := R28
                have ns28 := s28.ll
                refine y1h rfl rfl rfl hg16_5 (zp fun hq xq => (p_ld isAgg32 rfl ((C28.ext xq) 0 _ rfl))) ?_
                refine y1h rfl rfl rfl hg16_5 (zp fun hq xq => (p_fld runUnderlying35 rfl sizeOf32 (by decide) rfl rfl)) ?_
                refine y1h rfl rfl rfl hg16_5 (zp fun hq xq => (p_ld isAgg32 rfl ((lb4.lift xq).get rfl))) ?_
                refine y1h rfl rfl rfl hg16_5 (z_call call12 rfl (fun hq xq => (c_01Same M_ hq (st.ext xq).lt (gt (groupsF l) ((rdrAll (l.take i)).done.length : Int)) ((rdrRead (rdrAll (l.take i)) (gt l (i : Int))).cur) (s28.gr (.ext xq)) (sLb4_5.gr (.ext xq))))) ?_
                refine y1h rfl rfl rfl hg16_5 (zp fun hq xq => (p_not rfl)) ?_
                refine y1 rfl (zp fun hq xq => (p_pickf hg16_5 rfl rfl rfl)) ?_
                exact y_nil ⟨rfl, by repeat (first | exact le_r _ | refine le_c rfl ?_)⟩
              · intro hg16_5
                refine y1n rfl rfl rfl hg16_5 ?_
                refine y1n rfl rfl rfl hg16_5 ?_
                refine y1n rfl rfl rfl hg16_5 ?_
                refine y1n rfl rfl rfl hg16_5 ?_
                refine y1n rfl rfl rfl hg16_5 ?_
                refine y1n rfl rfl rfl hg16_5 ?_
                refine y1n rfl rfl rfl hg16_5 ?_
                refine y1n rfl rfl rfl hg16_5 ?_
                refine y1 rfl (zp fun hq xq => (p_pickt hg16_5 rfl rfl rfl)) ?_
                exact y_nil ⟨rfl, by repeat (first | exact le_r _ | refine le_c rfl ?_)⟩
              refine y_nil (fun hy30 xy30 => ?_)
              have s5 := s5.gr (.ext xy30)
              have sLb4_0 := sLb4_0.gr (.ext xy30)
              have sLb4_5 := sLb4_5.gr (.ext xy30)
              have sLb4_6 := sLb4_6.gr (.ext xy30)
              have s9_3 := s9_3.gr (.ext xy30)
              have lb4 := lb4.lift (xy30)
              have lb7 := lb7.lift (xy30)
              have st := st.ext xy30
              refine x_cond rfl (fun hbad => ?_) (fun hbad => ?_)
              · skip
                try simp only [Bool.and_eq_true, Bool.or_eq_true, Bool.not_eq_true', decide_eq_true_eq, decide_eq_false_iff_not, Bool.or_eq_false_iff, Bool.and_eq_false_iff, Bool.not_eq_false'] at hbad
                exfalso
                rcases hbad with hbad | hbad
                · have := hga.1; omega
                · exact hbad hga.2
              · skip
                try simp only [Bool.and_eq_true, Bool.or_eq_true, Bool.not_eq_true', decide_eq_true_eq, decide_eq_false_iff_not, Bool.or_eq_false_iff, Bool.and_eq_false_iff, Bool.not_eq_false'] at hbad
                refine x_skip ?_
                refine x_seq ?_
                refine x_region ?_
                refine r1 rfl (p_mv rfl) ?_
                refine r1 rfl (p_add64 rfl rfl (by omega)) ?_
                refine r1 rfl (p_as rfl) ?_
                refine o_nil ?_
                refine x_region ?_
                refine r1 rfl (p_fld runUnderlying35 rfl sizeOf32 (by decide) rfl rfl) ?_
                refine o0 (s_sto sizeOf32 rfl rfl rfl lb4 rfl ?_)
                intro hu31 u31
                have s5 := s5.gr (.upd u31 mb4)
                have sLb4_0 := sLb4_0.gr (.upd u31 mb4)
                have sLb4_6 := sLb4_6.gr (.upd u31 mb4)
                have s9_3 := s9_3.gr (.upd u31 mb4)
                have lb4 := u31.bl
                have lb7 := u31.kp.bl neb7_b4 lb7
                have st := st.upd u31 (.inl gb4)
                replace lb4 : Bl hu31 b4 [_, _, _, _, _, _, _, _] _ := lb4
                refine o_nil ?_
                have te32 : ((rdrAll (l.take i)).done.length : Int) + 1 = ((rdrOp (rdrAll (l.take i)) (gt l (i : Int))).done.length : Int) := (by rw [hoy.2]; omega)
                try rw [te32]
                rw [show (Value.slice none 0 0) = Value.slice none (rdrOp (rdrAll (l.take i)) (gt l (i : Int))).cur.length 0 by rw [hoy.1]; rfl] at lb4
                have sn : Sl r32 M_ hu31 none 0 (rdrOp (rdrAll (l.take i)) (gt l (i : Int))).cur := by rw [hoy.1]; exact .nil
                refine ⟨(aLb4_0, cLb4_0, none, 0, aLb4_6, cLb4_6, M_), ⟨⟨rfl, rfl, rfl, rfl, rfl, rfl, trivial⟩, rfl⟩, ?_⟩
                · skip
                  refine ⟨st, sLb4_0, sn, sLb4_6, s5, s9_3, lb4, mb4, lb7, mb7⟩
            · skip
              try simp only [Bool.and_eq_true, Bool.or_eq_true, Bool.not_eq_true', decide_eq_true_eq, decide_eq_false_iff_not, Bool.or_eq_false_iff, Bool.and_eq_false_iff, Bool.not_eq_false'] at hcl1
              have hcc : closesF (gt l (i : Int)) = false := by unfold closesF; simp only [Bool.or_eq_false_iff, decide_eq_false_iff_not]; exact hcl1
              have hoy := op_no (r := (rdrAll (l.take i))) hcc
              refine x_skip ?_
              have te33 : ((rdrAll (l.take i)).done.length : Int) = ((rdrOp (rdrAll (l.take i)) (gt l (i : Int))).done.length : Int) := (by rw [hoy.2])
              try rw [te33]
              have te34 : (rdrRead (rdrAll (l.take i)) (gt l (i : Int))).cur = (rdrOp (rdrAll (l.take i)) (gt l (i : Int))).cur := hoy.1.symm
              rw [te34] at sLb4_5
              try rw [te34]
              try rw [te34] at lb4
              refine ⟨(aLb4_0, cLb4_0, aLb4_5, cLb4_5, aLb4_6, cLb4_6, M_), ⟨⟨rfl, rfl, rfl, rfl, rfl, rfl, trivial⟩, rfl⟩, ?_⟩
              · skip
                refine ⟨st, sLb4_0, sLb4_5, sLb4_6, s5, s9_3, lb4, mb4, lb7, mb7⟩
          · skip
            rintro ⟨aLb4_0, cLb4_0, aLb4_5, cLb4_5, aLb4_6, cLb4_6, M_⟩ h' ⟨st, sLb4_0, sLb4_5, sLb4_6, s5, s9_3, lb4, mb4, lb7, mb7⟩
            show X _ _ _ _ (_ :: _) _ _
            have nsLb4_0 := sLb4_0.ll
            have nsLb4_5 := sLb4_5.ll
            have nsLb4_6 := sLb4_6.ll
            refine x_seq ?_
            refine x_region ?_
            refine r1 rfl (p_fld runUnderlying38 rfl sizeOf3 (by decide) rfl rfl) ?_
            refine r1 rfl (p_ld isAgg3 rfl (lb7.get rfl)) ?_
            refine r1 rfl (p_eql rfl rfl) ?_
            refine o_nil ?_
            refine x_cond rfl (fun hkk => ?_) (fun hkk => ?_)
            · skip
              try simp only [Bool.and_eq_true, Bool.or_eq_true, Bool.not_eq_true', decide_eq_true_eq, decide_eq_false_iff_not, Bool.or_eq_false_iff, Bool.and_eq_false_iff, Bool.not_eq_false'] at hkk
              have ho1 := op_one (r := (rdrAll (l.take i))) hkk
              refine x_seq ?_
              refine x_region ?_
              refine r1 rfl (p_fld runUnderlying35 rfl sizeOf33 (by decide) rfl rfl) ?_
              refine o0 (s_sto sizeOf33 rfl rfl rfl lb4 rfl ?_)
              intro hu35 u35
              have s5 := s5.gr (.upd u35 mb4)
              have sLb4_0 := sLb4_0.gr (.upd u35 mb4)
              have sLb4_5 := sLb4_5.gr (.upd u35 mb4)
              have s9_3 := s9_3.gr (.upd u35 mb4)
              have lb4 := u35.bl
              have lb7 := u35.kp.bl neb7_b4 lb7
              have st := st.upd u35 (.inl gb4)
              replace lb4 : Bl hu35 b4 [_, _, _, _, _, _, _, _] _ := lb4
              refine o_nil ?_
              refine x_region ?_
              refine r1 rfl (p_fld runUnderlying35 rfl sizeOf3 (by decide) rfl rfl) ?_
              refine o0 (s_sto sizeOf3 rfl rfl rfl lb4 rfl ?_)
              intro hu36 u36
              have s5 := s5.gr (.upd u36 mb4)
              have sLb4_0 := sLb4_0.gr (.upd u36 mb4)
              have sLb4_5 := sLb4_5.gr (.upd u36 mb4)
              have s9_3 := s9_3.gr (.upd u36 mb4)
              have lb4 := u36.bl
              have lb7 := u36.kp.bl neb7_b4 lb7
              have st := st.upd u36 (.inl gb4)
              replace lb4 : Bl hu36 b4 [_, _, _, _, _, _, _, _] _ := lb4
              refine o_nil ?_
              refine x_region ?_
              refine r1 rfl (p_mv rfl) ?_
              refine r1 rfl (p_add64 rfl rfl (by omega)) ?_
              refine r1 rfl (p_as rfl) ?_
              refine o_nil ?_
              have te37 : ((rdrOp (rdrAll (l.take i)) (gt l (i : Int))).done.length : Int) = ((rdrAll (l.take (i + 1))).done.length : Int) := (by rw [eo])
              try rw [te37]
              have te38 : (rdrOp (rdrAll (l.take i)) (gt l (i : Int))).cur = (rdrAll (l.take (i + 1))).cur := (by rw [eo])
              rw [te38] at sLb4_5
              try rw [te38]
              try rw [te38] at lb4
              rw [show (Value.slice none 0 0) = Value.slice none (rdrAll (l.take (i + 1))).raw.length 0 by rw [eo, ho1.1]; rfl] at lb4
              have sn : Sl r8 M_ hu36 none 0 (rdrAll (l.take (i + 1))).raw := by rw [eo, ho1.1]; exact .nil
              have te39 : 0 = ((rdrAll (l.take (i + 1))).came : Int) := (by rw [eo, ho1.2]; rfl)
              try rw [te39]
              try rw [te39] at lb4
              refine ⟨(i + 1, aLb4_0, cLb4_0, aLb4_5, cLb4_5, none, 0, M_), ⟨⟨(congrArg (fun z => some (Value.int .i64 z)) (by omega)), rfl, rfl, rfl, rfl, trivial⟩, rfl⟩, ?_, ?_⟩
              · skip
                refine ⟨st, sLb4_0, sLb4_5, sn, s5, lb4, mb4, ?_⟩
                · omega
              · (try dsimp only); omega
            · skip
              try simp only [Bool.and_eq_true, Bool.or_eq_true, Bool.not_eq_true', decide_eq_true_eq, decide_eq_false_iff_not, Bool.or_eq_false_iff, Bool.and_eq_false_iff, Bool.not_eq_false'] at hkk
              have ho2 := op_two (r := (rdrAll (l.take i))) hkk
              refine x_skip ?_
              refine x_region ?_
              refine r1 rfl (p_mv rfl) ?_
              refine r1 rfl (p_add64 rfl rfl (by omega)) ?_
              refine r1 rfl (p_as rfl) ?_
              refine o_nil ?_
              have te40 : ((rdrOp (rdrAll (l.take i)) (gt l (i : Int))).done.length : Int) = ((rdrAll (l.take (i + 1))).done.length : Int) := (by rw [eo])
              try rw [te40]
              have te41 : (rdrOp (rdrAll (l.take i)) (gt l (i : Int))).cur = (rdrAll (l.take (i + 1))).cur := (by rw [eo])
              rw [te41] at sLb4_5
              try rw [te41]
              try rw [te41] at lb4
              have te42 : (midA (rdrAll (l.take i)) (gt l (i : Int))).raw = (rdrAll (l.take (i + 1))).raw := (by rw [eo, ho2.1])
              rw [te42] at sLb4_6
              try rw [te42]
              try rw [te42] at lb4
              have te43 : ((midA (rdrAll (l.take i)) (gt l (i : Int))).came : Int) = ((rdrAll (l.take (i + 1))).came : Int) := (by rw [eo, ho2.2])
              try rw [te43]
              try rw [te43] at lb4
              refine ⟨(i + 1, aLb4_0, cLb4_0, aLb4_5, cLb4_5, aLb4_6, cLb4_6, M_), ⟨⟨(congrArg (fun z => some (Value.int .i64 z)) (by omega)), rfl, rfl, rfl, rfl, trivial⟩, rfl⟩, ?_, ?_⟩
              · skip
                refine ⟨st, sLb4_0, sLb4_5, sLb4_6, s5, lb4, mb4, ?_⟩
                · omega
              · (try dsimp only); omega
    · skip
      try simp only [Bool.and_eq_true, Bool.or_eq_true, Bool.not_eq_true', decide_eq_true_eq, decide_eq_false_iff_not, Bool.or_eq_false_iff, Bool.and_eq_false_iff, Bool.not_eq_false'] at hc
      have el : l.take i = l := List.take_of_length_le (by omega)
      have hgl : (groupsF l).length = (rdrAll (l.take i)).done.length + 1 := by rw [el]; unfold groupsF; simp
      have hgg : gt (groupsF l) ((rdrAll (l.take i)).done.length : Int) = (rdrAll (l.take i)).cur := by rw [el]; exact gt_end rfl
      refine x_exit ?_
      refine x_seq ?_
      refine x_regq (by kernel_rfl) (by kernel_rfl) ?_
      refine y1 rfl (zp fun hq xq => (p_mv rfl)) ?_
      refine y1 rfl (zp fun hq xq => (p_add64 rfl rfl (by omega))) ?_
      refine y1 rfl (zp fun hq xq => (p_mv rfl)) ?_
      refine y1 rfl (zp fun hq xq => (p_len runUnderlying25 rfl)) ?_
      refine y1 rfl (zp fun hq xq => (p_eql rfl rfl)) ?_
      refine y1 rfl (zp fun hq xq => (p_mv rfl)) ?_
      apply y_and 8 (dj := 87) (d := 95) rfl
      · intro hg23_6
        have hg23_6_ := hg23_6
        try simp only [Bool.and_eq_true, Bool.or_eq_true, Bool.not_eq_true', decide_eq_true_eq, decide_eq_false_iff_not, Bool.or_eq_false_iff, Bool.and_eq_false_iff] at hg23_6_
        refine y1h rfl rfl rfl hg23_6 (zp fun hq xq => (p_mv rfl)) ?_
        refine y1h rfl rfl rfl hg23_6 (zp fun hq xq => (p_mv rfl)) ?_
        refine y1h rfl rfl rfl hg23_6 (zp fun hq xq => (p_idx runUnderlying25 sizeOf32 rfl rfl (by omega) (s5.isi (i := ((rdrAll (l.take i)).done.length : Int)) (by omega)))) ?_
        obtain ⟨cs44, R44, C44⟩ := s5.at_ (((rdrAll (l.take i)).done.length : Int)) (by omega)
        obtain ⟨a44, c44, rfl, s44⟩ := R44
        have ns44 := s44.ll
        refine y1h rfl rfl rfl hg23_6 (zp fun hq xq => (p_ld isAgg32 rfl ((C44.ext xq) 0 _ rfl))) ?_
        refine y1h rfl rfl rfl hg23_6 (zp fun hq xq => (p_fld runUnderlying35 rfl sizeOf32 (by decide) rfl rfl)) ?_
        refine y1h rfl rfl rfl hg23_6 (zp fun hq xq => (p_ld isAgg32 rfl ((lb4.lift xq).get rfl))) ?_
        refine y1h rfl rfl rfl hg23_6 (z_call call12 rfl (fun hq xq => (c_01Same M_ hq (st.ext xq).lt (gt (groupsF l) ((rdrAll (l.take i)).done.length : Int)) ((rdrAll (l.take i)).cur) (s44.gr (.ext xq)) (sLb4_5.gr (.ext xq))))) ?_
        refine y1 rfl (zp fun hq xq => (p_pickt hg23_6 rfl rfl rfl)) ?_
        exact y_nil ⟨rfl, by repeat (first | exact le_r _ | refine le_c rfl ?_)⟩
      · intro hg23_6
        refine y1n rfl rfl rfl hg23_6 ?_
        refine y1n rfl rfl rfl hg23_6 ?_
        refine y1n rfl rfl rfl hg23_6 ?_
        refine y1n rfl rfl rfl hg23_6 ?_
        refine y1n rfl rfl rfl hg23_6 ?_
        refine y1n rfl rfl rfl hg23_6 ?_
        refine y1n rfl rfl rfl hg23_6 ?_
        refine y1 rfl (zp fun hq xq => (p_pickf hg23_6 rfl rfl rfl)) ?_
        exact y_nil ⟨rfl, by repeat (first | exact le_r _ | refine le_c rfl ?_)⟩
      refine y1 rfl (zp fun hq xq => (p_as rfl)) ?_
      refine y_nil (fun hy46 xy46 => ?_)
      have sLb4_0 := sLb4_0.gr (.ext xy46)
      have sLb4_5 := sLb4_5.gr (.ext xy46)
      have sLb4_6 := sLb4_6.gr (.ext xy46)
      have lb4 := lb4.lift (xy46)
      have st := st.ext xy46
      refine x_ret (fin1 rfl ?_)
      have hfin : (decide (((rdrAll (l.take i)).done.length : Int) + 1 = ((groupsF l).length : Int)) && decide (gt (groupsF l) ((rdrAll (l.take i)).done.length : Int) = (rdrAll (l.take i)).cur)) = true := by
        rw [hgg, hgl]; simp
      rw [hfin]
      exact ⟨rfl, st.x⟩
end Go.Proofs
