import Derived.Test.YteeienbhmkiloaaGreatDoorW17
set_option linter.unusedSimpArgs false
set_option linter.unusedVariables false
namespace Go.Proofs
open Go.Lx Tryz

def viewE (w hh : Int) : View := ⟨((newL w).cells.length : Int), (gridN hh : Int), List.replicate (gridN hh) (newL w), ⟨0, 0, false⟩, true⟩
theorem groups_nil : groupsF [] = [[]] := rfl
theorem rep_mem {n : Nat} {x y : Line} (h : y ∈ List.replicate n x) : y = x := (List.mem_replicate.1 h).2
theorem pl45 : ∀ w, ((#[{ name := "Wide", type := 3, offset := 0, embedded := false, tag := "", pkgPath := "", byteOffset := 0 }, { name := "High", type := 3, offset := 1, embedded := false, tag := "", pkgPath := "", byteOffset := 8 }, { name := "Lines", type := 27, offset := 2, embedded := false, tag := "", pkgPath := "", byteOffset := 16 }, { name := "At", type := 29, offset := 3, embedded := false, tag := "", pkgPath := "", byteOffset := 40 }, { name := "Auto", type := 4, offset := 6, embedded := false, tag := "", pkgPath := "", byteOffset := 64 }] : Array Field).mapM (fun f => do return (f.offset, ← sizeOf f.type)) : Sem (Array (Nat × Nat))).run prog w = .ok (([(0, 1), (1, 1), (2, 1), (3, 3), (6, 1)] : List (Nat × Nat))).toArray w := fun _ => by kernel_rfl
theorem c_RunE (N : Nat → Prop) (h : Hp) (hN : ∀ b, N b → b < h.size) (w : Int) (hh : Int) (l : List OpT) {a_l : Option Addr} {c_l : Nat} (s_l : Sl rOpT N h a_l c_l l) (hl : l = []) (gl : Gl GL N h) : C prog 13 [.int .i64 w, .int .i64 hh, .slice a_l l.length c_l] h (fun v h' => ∃ (ar_lines : Option Addr) (cr_lines : Nat), v = .agg #[.int .i64 ((viewE w hh).wide), .int .i64 ((viewE w hh).high), .slice ar_lines ((viewE w hh).lines).length cr_lines, .int .i64 (((viewE w hh).at_).row), .int .i64 (((viewE w hh).at_).col), .bool (((viewE w hh).at_).pend), .bool ((viewE w hh).auto)] ∧ B64 ((viewE w hh).wide) ∧ B64 ((viewE w hh).high) ∧ Sl rLine N h' ar_lines cr_lines ((viewE w hh).lines) ∧ B64 (((viewE w hh).at_).row) ∧ B64 (((viewE w hh).at_).col) ∧ Ext h h') := by
  have st := St.init hN
  have ns_l := s_l.ll
  have eg : groupsF l = [[]] := by rw [hl]; rfl
  refine enter func13 rfl ntmps13 results13 rfl rfl ?_
  refine x_seq ?_
  refine x_region ?_
  refine o1 rfl (s_al zeroValue45 rfl ?_)
  intro b6 hb1 n1
  obtain ⟨M1, nm1⟩ := nm (M := N) n1
  have gb6 : h.size ≤ b6 := n1.ge st.kp
  have st := st.new n1 nm1
  have lb6 := n1.bl
  have mb6 := nm1.mem
  refine o_nil ?_
  refine x_seq ?_
  refine x_region ?_
  refine r1 rfl (p_mv rfl) ?_
  refine r1 rfl (p_mv rfl) ?_
  refine o1 rfl (s_call call21 rfl (c_placeNew M1 hb1 st.lt w hh) ?_)
  rintro _ hp2 ⟨pbP, RbP, rfl, goP, obP, x2⟩
  obtain ⟨M2, ab2, obP, st2⟩ := St.ob st x2 obP goP
  have gnP : ∀ b, RbP b → h.size ≤ b := fun b hb => Nat.le_trans st.kp.size (goP b hb)
  have noqP_b6 : ¬ RbP b6 := fun hh => by have := goP _ hh; have := lb6.lt; omega
  have lb6 := lb6.lift (x2)
  have mb6 := ab2.sub _ mb6
  have st := st2
  refine r1 rfl (p_as rfl) ?_
  refine o_nil ?_
  refine x_seq ?_
  refine x_region ?_
  refine r1 rfl (p_mv rfl) ?_
  refine o1 rfl (s_call call6 rfl (c_Groups M2 hp2 st.lt l (s_l.gr st.gr) (by rw [hl]; simp) (by rw [hl]; simp [bytesN]) (by exact gl.gr st.gr)) ?_)
  rintro _ hp3 ⟨a3, c3, rfl, s3, x3⟩
  have obP := Oj.ext obP x3
  have lb6 := lb6.lift (x3)
  have st := st.ext x3
  have ns3 := s3.ll
  refine r1 rfl (p_as rfl) ?_
  refine o_nil ?_
  refine x_seq ?_
  refine x_region ?_
  refine r1 rfl (p_mv rfl) ?_
  refine r1 rfl (p_mv rfl) ?_
  refine r1 rfl (p_idx runUnderlying25 sizeOf32 rfl rfl (by rw [eg]; simp) (s3.isi (i := 0) (by rw [eg]; simp))) ?_
  obtain ⟨cs4, R4, C4⟩ := s3.at_ (0) (by rw [eg]; simp)
  obtain ⟨a4, c4, rfl, s4⟩ := R4
  have ns4 := s4.ll
  refine r1 rfl (p_ld isAgg32 rfl (C4 0 _ rfl)) ?_
  refine o1 rfl (s_call call22 rfl (c_layE M2 hp3 st.lt pbP (gt (groupsF l) 0) s4 (by rw [eg]; rfl)) ?_)
  rintro _ hp5 ⟨rfl, x5⟩
  have s3 := s3.gr (.ext x5)
  have obP := Oj.ext obP x5
  have lb6 := lb6.lift (x5)
  have st := st.ext x5
  refine o_nil ?_
  refine x_seq ?_
  refine x_region ?_
  refine r1 rfl (p_as rfl) ?_
  refine o_nil ?_
  refine x_seq ?_
  refine x_seq ?_
  refine x_region ?_
  refine r1 rfl (p_mv rfl) ?_
  refine r1 rfl (p_len runUnderlying22 rfl) ?_
  refine r1 rfl (p_mv rfl) ?_
  refine o_nil ?_
  refine x_block ?_
  refine x_loope (σ := Unit × (Nat → Prop)) (fun st_ E0 => match st_ with | (u, M_) => (24, .int .i64 0) :: (9, .int .i64 1) :: E0) [(6, _), (7, _), (8, _), (22, _), (23, _)] (fun st_ h' => match st_ with | (u, M_) => St N h (fun _ => False) M_ h' ∧ Sl (sl r32) M_ h' a3 c3 (groupsF l) ∧ (oPen pbP).At RbP (newP w hh) M_ h' ∧ Bl h' b6 [.int .i64 0, .int .i64 0, .slice none 0 0, .int .i64 0, .int .i64 0, .bool false, .bool false] 45 ∧ M_ b6 ∧ (¬ RbP b6)) (fun st_ => match st_ with | (u, M_) => 0) ((), M2) ⟨⟨rfl, rfl, rfl, rfl, rfl, rfl, rfl, trivial⟩, rfl⟩ ?_ ?_
  · skip
    refine ⟨st, s3, obP, lb6, mb6, noqP_b6⟩
  rintro ⟨u, M_⟩ h' ⟨st, s3, obP, lb6, mb6, noobP_b6⟩
  show X _ _ _ _ (_ :: _) _ _
  refine x_seq ?_
  refine x_region ?_
  refine r1 rfl (p_lss rfl rfl) ?_
  refine o_nil ?_
  refine x_seq ?_
  refine x_cond rfl (fun hc => ?_) (fun hc => ?_)
  · skip
    try simp only [Bool.and_eq_true, Bool.or_eq_true, Bool.not_eq_true', decide_eq_true_eq, decide_eq_false_iff_not, Bool.or_eq_false_iff, Bool.and_eq_false_iff, Bool.not_eq_false'] at hc
    exfalso; rw [hl] at hc; simp at hc
  · skip
    try simp only [Bool.and_eq_true, Bool.or_eq_true, Bool.not_eq_true', decide_eq_true_eq, decide_eq_false_iff_not, Bool.or_eq_false_iff, Bool.and_eq_false_iff, Bool.not_eq_false'] at hc
    refine x_exit ?_
    refine x_seq ?_
    obtain ⟨g, G, Rg, eG, lpbP, og, ⟨qr0, qr1⟩, dz, rm⟩ := obP
    have mpbP := (rm _ qr0).1
    have goA := gnP
    have gog : ∀ b, Rg b → h.size ≤ b := fun b hb => goA b (qr1 b hb)
    have eG2 : G.map (fun x => x.2) = List.replicate (gridN hh) (newL w) := eG
    have hG : G.length = gridN hh := by have := congrArg List.length eG; simpa [newP] using this
    have hgn : 1 ≤ gridN hh ∧ gridN hh ≤ 1024 := by unfold gridN; omega
    have hrow : ∀ x ∈ G, x.2 = newL w := fun x hx => rep_mem (n := gridN hh) (by rw [← eG2]; exact List.mem_map_of_mem hx)
    have hW : (gt G 0).2 = newL w := hrow _ (gt_mem (by omega) (by omega))
    have hnl : (newL w).cells.length ≤ 1024 := by unfold newL; simp; omega
    have neo6_b6 : pbP ≠ b6 := fun e => noobP_b6 (e ▸ qr0)
    have neo6_og_b6 : ¬ Rg b6 := fun hh => noobP_b6 (qr1 _ hh)
    refine x_regdt 24 (fun hq => Ext h' hq) (by kernel_rfl) ⟨by kernel_rfl, by kernel_rfl, by kernel_rfl, by kernel_rfl⟩ ?_
    intro tl
    have xd := Ext.refl h'
    refine e_take 0 tl rfl rfl (by kernel_rfl) (by kernel_rfl) rfl xd (fun hq xq => p_mv rfl) ?_
    refine e_take 1 tl rfl rfl (by kernel_rfl) (by kernel_rfl) rfl xd (fun hq xq => p_nc rfl) ?_
    refine e_take 2 tl rfl rfl (by kernel_rfl) (by kernel_rfl) rfl xd (fun hq xq => p_fld runUnderlying70 rfl sizeOf68 (by decide) rfl rfl) ?_
    refine e_take 3 tl rfl rfl (by kernel_rfl) (by kernel_rfl) rfl xd (fun hq xq => p_ld isAgg68 rfl ((lpbP.lift xq).get rfl)) ?_
    refine e_take 5 tl rfl rfl (by kernel_rfl) (by kernel_rfl) rfl xd (fun hq xq => p_mv rfl) ?_
    refine e_take 6 tl rfl rfl (by kernel_rfl) (by kernel_rfl) rfl xd (fun hq xq => p_nc rfl) ?_
    refine e_take 7 tl rfl rfl (by kernel_rfl) (by kernel_rfl) rfl xd (fun hq xq => p_fld runUnderlying70 rfl sizeOf68 (by decide) rfl rfl) ?_
    refine e_take 8 tl rfl rfl (by kernel_rfl) (by kernel_rfl) rfl xd (fun hq xq => p_ld isAgg68 rfl ((lpbP.lift xq).get rfl)) ?_
    refine e_take 10 tl rfl rfl (by kernel_rfl) (by kernel_rfl) rfl xd (fun hq xq => p_mv rfl) ?_
    refine e_take 11 tl rfl rfl (by kernel_rfl) (by kernel_rfl) rfl xd (fun hq xq => p_nc rfl) ?_
    refine e_take 12 tl rfl rfl (by kernel_rfl) (by kernel_rfl) rfl xd (fun hq xq => p_fld runUnderlying70 rfl sizeOf68 (by decide) rfl rfl) ?_
    refine e_take 13 tl rfl rfl (by kernel_rfl) (by kernel_rfl) rfl xd (fun hq xq => p_ld isAgg68 rfl ((lpbP.lift xq).get rfl)) ?_
    refine e_take 15 tl rfl rfl (by kernel_rfl) (by kernel_rfl) rfl xd (fun hq xq => p_mv rfl) ?_
    refine e_take 16 tl rfl rfl (by kernel_rfl) (by kernel_rfl) rfl xd (fun hq xq => p_nc rfl) ?_
    refine e_take 17 tl rfl rfl (by kernel_rfl) (by kernel_rfl) rfl xd (fun hq xq => p_fld runUnderlying70 rfl sizeOf29 (by decide) rfl rfl) ?_
    refine e_take 18 tl rfl rfl (by kernel_rfl) (by kernel_rfl) rfl xd (fun hq xq => p_lda (vs := [.int .i64 0, .int .i64 0, .bool false]) isAgg29 rfl ((lpbP.lift xq).getp 3 rfl) sizeOf29) ?_
    refine e_take 19 tl rfl rfl (by kernel_rfl) (by kernel_rfl) rfl xd (fun hq xq => p_mv rfl) ?_
    refine e_take 20 tl rfl rfl (by kernel_rfl) (by kernel_rfl) rfl xd (fun hq xq => p_nc rfl) ?_
    refine e_take 21 tl rfl rfl (by kernel_rfl) (by kernel_rfl) rfl xd (fun hq xq => p_fld runUnderlying70 rfl sizeOf4 (by decide) rfl rfl) ?_
    refine e_take 22 tl rfl rfl (by kernel_rfl) (by kernel_rfl) rfl xd (fun hq xq => p_ld isAgg4 rfl ((lpbP.lift xq).get rfl)) ?_
    refine e_one 4 (by kernel_rfl) rfl rfl rfl (s_call call25 rfl (c_gridWide M_ h' st.lt G og (by omega)) ?_)
    rintro _ hp8 ⟨rfl, x8⟩
    have og := Oj.ext og x8
    have lb6 := lb6.lift (x8)
    have lpbP := lpbP.lift (x8)
    have st := st.ext x8
    have xd := xd.trans (x8)
    refine ⟨xd, ?_⟩
    refine e_one 9 (by kernel_rfl) rfl rfl rfl (s_call call26 rfl (c_gridHigh M_ hp8 st.lt G og) ?_)
    rintro _ hp9 ⟨rfl, x9⟩
    have og := Oj.ext og x9
    have lb6 := lb6.lift (x9)
    have lpbP := lpbP.lift (x9)
    have st := st.ext x9
    have xd := xd.trans (x9)
    refine ⟨xd, ?_⟩
    refine e_one 14 (by kernel_rfl) rfl rfl rfl (s_call call27 rfl (c_gridLines M_ hp9 st.lt G og (by omega) (fun x hx => by rw [hrow x hx]; exact ⟨by omega, fun c hc => by rw [(List.mem_replicate.1 hc).2]; exact Nat.zero_le _⟩)) ?_)
    rintro _ hp10 ⟨a10, c10, rfl, w10, w10_ge, x10⟩
    obtain ⟨M10, am10, w10⟩ := Oz.own w10 st x10
    have now10_b6 : ¬ Ob a10 c10 b6 := fun hh => by have := w10_ge _ hh; have := lb6.lt; omega
    have now10_pbP : ¬ Ob a10 c10 pbP := fun hh => by have := w10_ge _ hh; have := lpbP.lt; omega
    have nop10_og : ∀ b, Rg b → ¬ Ob a10 c10 b := fun b hb hh => by have := w10_ge _ hh; have := Oj.lt _ og b hb; omega
    have og := Oj.gx og (am10.gx x10) am10.sub (x10)
    have lb6 := lb6.lift (x10)
    have mb6 := am10.sub _ mb6
    have lpbP := lpbP.lift (x10)
    have mpbP := am10.sub _ mpbP
    have st := st.own x10 am10 w10
    have xd := xd.trans (x10)
    have nw10 := w10.len'
    refine ⟨xd, ?_⟩
    refine e_one 23 (by kernel_rfl) rfl rfl rfl (sp (p_bs runUnderlying45 zeroValue45 pl45 rfl) ?_)
    refine ⟨xd, ?_⟩
    refine e_end (by kernel_rfl) ?_
    refine o0 (s_sta rfl rfl sizeOf45 rfl lb6 rfl ?_)
    intro hu11 u11
    have w10 := w10.upd u11 mb6 now10_b6
    have og := Oj.upd og u11 mb6 neo6_og_b6
    have lb6 := u11.bl
    have lpbP := u11.kp.bl neo6_b6 lpbP
    have st := st.upd u11 (.inl gb6)
    replace lb6 : Bl hu11 b6 [_, _, _, _, _, _, _] _ := lb6
    refine o_nil ?_
    refine x_ret (fin1 (ret_cell isAgg45 rfl (lb6.gets rfl) sizeOf45) ?_)
    have hv : viewE w hh = ⟨((gt G 0).2.cells.length : Int), (G.length : Int), G.map (fun x => x.2), ⟨0, 0, false⟩, true⟩ := by unfold viewE; rw [hW, hG, eG2]
    have hwl : (gt G 0).2.cells.length ≤ 1024 := by rw [hW]; exact hnl
    rw [hv]
    dsimp only
    exact ⟨_, _, rfl, (by first | omega | assumption | (dsimp only; omega)), (by first | omega | assumption | (dsimp only; omega)), (w10.out st hN), (by first | omega | assumption | (dsimp only; omega)), (by first | omega | assumption | (dsimp only; omega)), st.x⟩
end Go.Proofs
