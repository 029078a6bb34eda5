import Derived.Test.YteeienbhmkiloaaGreatDoorW14
set_option linter.unusedSimpArgs false
set_option linter.unusedVariables false
namespace Go.Proofs
open Go.Lx Tryz

theorem grid_row {g : Nat} {R : Nat → Prop} {G : PRows} {M : Nat → Prop} {h : Hp} (o : (oGrid g).At R G M h) {x : Nat × Line} (hx : x ∈ G) : ∃ Rx, (oRow x.1).At Rx x.2 M h ∧ ∀ b, Rx b → R b := by
  obtain ⟨a, c, Rs, l, w1, q, ⟨r0, r1, r2⟩, n, m⟩ := o
  obtain ⟨Rx, h1, h2⟩ := rows_at q hx
  exact ⟨Rx, h1, fun b hb => r2 b (h2 b hb)⟩
theorem gt_map {α β : Type} [Inhabited α] [Inhabited β] {l : List α} {f : α → β} {i : Int} (h0 : 0 ≤ i ∧ i < l.length) : gt (l.map f) i = f (gt l i) := by
  have h1 := gt_get (l := l.map f) h0.1 (by rw [List.length_map]; exact h0.2)
  rw [List.getElem?_map, gt_get h0.1 h0.2] at h1
  exact (Option.some.inj h1).symm
theorem c_gridHigh (N : Nat → Prop) (h : Hp) (hN : ∀ b, N b → b < h.size) (g : PRows) {p_g : Nat} {R_g : Nat → Prop} (o_g : (oGrid p_g).At R_g g N h) : C prog 26 [.pointer (some ⟨p_g, 0, none⟩)] h (fun v h' => v = .int .i64 (g.length : Int) ∧ Ext h h') := by
  have st := St.init hN
  refine enter func26 rfl ntmps26 results26 rfl rfl ?_
  obtain ⟨ra, rc, Rs, lp_g, wr, qs, ⟨qr0, qr1, qr2⟩, dz, rm⟩ := id o_g
  have mp_g := (rm _ qr0).1
  refine x_seq ?_
  refine x_region ?_
  refine r1 rfl (p_as rfl) ?_
  refine o_nil ?_
  refine x_seq ?_
  refine x_seq ?_
  refine x_region ?_
  refine r1 rfl (p_mv rfl) ?_
  refine r1 rfl (p_eqlp runUnderlying68 rfl rfl) ?_
  refine o_nil ?_
  refine x_cond_f rfl ?_
  refine x_skip ?_
  refine x_seq ?_
  refine x_region ?_
  refine r1 rfl (p_mv rfl) ?_
  refine r1 rfl (p_nc rfl) ?_
  refine r1 rfl (p_fld runUnderlying98 rfl sizeOf96 (by decide) rfl rfl) ?_
  refine r1 rfl (p_ld isAgg96 rfl (lp_g.get rfl)) ?_
  refine r1 rfl (p_len runUnderlying96 rfl) ?_
  refine r1 rfl (p_as rfl) ?_
  refine o_nil ?_
  refine x_ret (fin1 rfl ?_)
  rw [List.length_map]
  exact ⟨rfl, st.x⟩
theorem c_gridRow (N : Nat → Prop) (h : Hp) (hN : ∀ b, N b → b < h.size) (g : PRows) (i : Int) {p_g : Nat} {R_g : Nat → Prop} (o_g : (oGrid p_g).At R_g g N h) (hi : 0 ≤ i ∧ i < g.length) : C prog 41 [.pointer (some ⟨p_g, 0, none⟩), .int .i64 i] h (fun v h' => v = .pointer (some ⟨(gt g i).1, 0, none⟩) ∧ Ext h h') := by
  have st := St.init hN
  refine enter func41 rfl ntmps41 results41 rfl rfl ?_
  obtain ⟨ra, rc, Rs, lp_g, wr, qs, ⟨qr0, qr1, qr2⟩, dz, rm⟩ := id o_g
  have mp_g := (rm _ qr0).1
  refine x_seq ?_
  refine x_region ?_
  refine r1 rfl (p_as rfl) ?_
  refine o_nil ?_
  refine x_seq ?_
  refine x_seq ?_
  refine x_region ?_
  refine r1 rfl (p_mv rfl) ?_
  refine r1 rfl (p_lss rfl rfl) ?_
  refine r1 rfl (p_mv rfl) ?_
  apply o_orx 5 (dj := 7) (d := 12) rfl
  · intro hg1_3
    have hg1_3_ := hg1_3
    try simp only [Bool.and_eq_true, Bool.or_eq_true, Bool.not_eq_true', decide_eq_true_eq, decide_eq_false_iff_not, Bool.or_eq_false_iff, Bool.and_eq_false_iff] at hg1_3_
    have xghg1_3 := Ext.refl h
    refine r1h rfl rfl rfl hg1_3 (p_mv rfl) ?_
    refine r1h rfl rfl rfl hg1_3 (p_mv rfl) ?_
    refine o1h rfl rfl rfl hg1_3 (s_call call26 rfl (c_gridHigh N h st.lt g o_g) ?_)
    rintro _ hp1 ⟨rfl, x1⟩
    have wr := wr.ext x1
    have o_g := Oj.ext o_g x1
    have lp_g := lp_g.lift (x1)
    have st := st.ext x1
    have xghg1_3 := xghg1_3.trans (x1)
    refine r1h rfl rfl rfl hg1_3 (p_geq rfl rfl) ?_
    refine r1 rfl (p_pickf hg1_3 rfl rfl rfl) ?_
    exact o_nil ⟨rfl, xghg1_3, by repeat (first | exact le_r _ | refine le_c rfl ?_)⟩
  · intro hg1_3
    refine o1n rfl rfl rfl hg1_3 ?_
    refine o1n rfl rfl rfl hg1_3 ?_
    refine o1n rfl rfl rfl hg1_3 ?_
    refine o1n rfl rfl rfl hg1_3 ?_
    refine r1 rfl (p_pickt hg1_3 rfl rfl rfl) ?_
    exact o_nil ⟨rfl, Ext.refl _, by repeat (first | exact le_r _ | refine le_c rfl ?_)⟩
  intro hx2 xx2
  have wr := wr.ext xx2
  have o_g := Oj.ext o_g xx2
  have lp_g := lp_g.lift (xx2)
  have st := st.ext xx2
  refine o_nil ?_
  refine x_cond rfl (fun h1 => ?_) (fun h1 => ?_)
  · skip
    try simp only [Bool.and_eq_true, Bool.or_eq_true, Bool.not_eq_true', decide_eq_true_eq, decide_eq_false_iff_not, Bool.or_eq_false_iff, Bool.and_eq_false_iff, Bool.not_eq_false'] at h1
    exfalso; omega
  · skip
    try simp only [Bool.and_eq_true, Bool.or_eq_true, Bool.not_eq_true', decide_eq_true_eq, decide_eq_false_iff_not, Bool.or_eq_false_iff, Bool.and_eq_false_iff, Bool.not_eq_false'] at h1
    refine x_skip ?_
    refine x_seq ?_
    refine x_region ?_
    refine r1 rfl (p_mv rfl) ?_
    refine r1 rfl (p_nc rfl) ?_
    refine r1 rfl (p_fld runUnderlying98 rfl sizeOf96 (by decide) rfl rfl) ?_
    refine r1 rfl (p_ld isAgg96 rfl (lp_g.get rfl)) ?_
    refine r1 rfl (p_mv rfl) ?_
    refine r1 rfl (p_idx runUnderlying96 sizeOf90 rfl rfl (by rw [List.length_map]; omega) (wr.isi (i := i) (by rw [List.length_map]; omega))) ?_
    obtain ⟨cs3, R3, C3⟩ := wr.at_ (i) (by rw [List.length_map]; omega)
    obtain rfl := R3
    refine r1 rfl (p_ld isAgg90 rfl (C3 0 _ rfl)) ?_
    refine r1 rfl (p_as rfl) ?_
    refine o_nil ?_
    refine x_ret (fin1 rfl ?_)
    rw [gt_map hi]
    exact ⟨rfl, st.x⟩
theorem c_gridWide (N : Nat → Prop) (h : Hp) (hN : ∀ b, N b → b < h.size) (g : PRows) {p_g : Nat} {R_g : Nat → Prop} (o_g : (oGrid p_g).At R_g g N h) (hg : 1 ≤ g.length) : C prog 25 [.pointer (some ⟨p_g, 0, none⟩)] h (fun v h' => v = .int .i64 ((gt g 0).2.cells.length : Int) ∧ Ext h h') := by
  have st := St.init hN
  refine enter func25 rfl ntmps25 results25 rfl rfl ?_
  obtain ⟨Rx, orow, hsub⟩ := grid_row o_g (gt_mem (l := g) (i := 0) (by omega) (by omega))
  refine x_seq ?_
  refine x_region ?_
  refine r1 rfl (p_as rfl) ?_
  refine o_nil ?_
  refine x_seq ?_
  refine x_region ?_
  refine r1 rfl (p_mv rfl) ?_
  refine o1 rfl (s_call call41 rfl (c_gridRow N h st.lt g 0 o_g (by first | omega | (simp only [List.length_append, List.length_cons, List.length_nil, List.length_map, List.length_take, List.length_drop, List.length_replicate]; omega))) ?_)
  rintro _ hp1 ⟨rfl, x1⟩
  have o_g := Oj.ext o_g x1
  have orow := Oj.ext orow x1
  have st := st.ext x1
  refine o1 rfl (s_call call47 rfl (c_rowWide N hp1 st.lt ((gt g 0).2) orow) ?_)
  rintro _ hp2 ⟨rfl, x2⟩
  have o_g := Oj.ext o_g x2
  have orow := Oj.ext orow x2
  have st := st.ext x2
  refine r1 rfl (p_as rfl) ?_
  refine o_nil ?_
  refine x_ret (fin1 rfl ?_)
  exact ⟨rfl, st.x⟩
theorem c_gridLines (N : Nat → Prop) (h : Hp) (hN : ∀ b, N b → b < h.size) (g : PRows) {p_g : Nat} {R_g : Nat → Prop} (o_g : (oGrid p_g).At R_g g N h) (hg : g.length ≤ 100000) (ht : ∀ x ∈ g, x.2.cells.length ≤ 100000 ∧ ∀ c ∈ x.2.cells, c.text.length ≤ 2000000) : C prog 27 [.pointer (some ⟨p_g, 0, none⟩)] h (fun v h' => ∃ (ar : Option Addr) (cr : Nat), v = .slice ar (g.map (·.2)).length cr ∧ Oz 102 rLine N h h' ar cr (g.map (·.2)) ∧ (∀ b, Ob ar cr b → h.size ≤ b) ∧ Ext h h') := by
  have st := St.init hN
  refine enter func27 rfl ntmps27 results27 rfl rfl ?_
  obtain ⟨ra, rc, Rs, lp_g, wr, qs, ⟨qr0, qr1, qr2⟩, dz, rm⟩ := id o_g
  have mp_g := (rm _ qr0).1
  refine x_seq ?_
  refine x_region ?_
  refine r1 rfl (p_as rfl) ?_
  refine o_nil ?_
  refine x_seq ?_
  refine x_region ?_
  refine r1 rfl (p_as rfl) ?_
  refine o_nil ?_
  refine x_seq ?_
  refine x_seq ?_
  refine x_region ?_
  refine r1 rfl (p_mv rfl) ?_
  refine o1 rfl (s_call call26 rfl (c_gridHigh N h st.lt g o_g) ?_)
  rintro _ hp1 ⟨rfl, x1⟩
  have wr := wr.ext x1
  have o_g := Oj.ext o_g x1
  have lp_g := lp_g.lift (x1)
  have st := st.ext x1
  refine r1 rfl (p_mv rfl) ?_
  refine o_nil ?_
  refine x_block ?_
  refine x_loope (σ := Nat × (Option Addr) × Nat × (Nat → Prop)) (fun st_ E0 => match st_ with | (i, aL3, cL3, M_) => (7, .int .i64 (i : Int)) :: (3, .slice aL3 ((g.take i).map (·.2)).length cL3) :: E0) [(0, _), (6, _)] (fun st_ h' => match st_ with | (i, aL3, cL3, M_) => St N h (fun _ => False) M_ h' ∧ Ow h.size 102 rLine M_ h' aL3 cL3 ((g.take i).map (·.2)) ∧ Ow 0 90 rPt M_ h' ra rc (g.map (·.1)) ∧ (oGrid p_g).At R_g g M_ h' ∧ Bl h' p_g [.slice ra (g.map (·.1)).length rc] 98 ∧ M_ p_g ∧ (¬ Ob aL3 cL3 p_g) ∧ (¬ Ob ra rc p_g) ∧ (∀ b, Ob aL3 cL3 b → ¬ Ob ra rc b) ∧ (∀ b, Ob aL3 cL3 b → ¬ R_g b) ∧ (i ≤ g.length)) (fun st_ => match st_ with | (i, aL3, cL3, M_) => g.length - i) (0, none, 0, N) ⟨⟨rfl, rfl, rfl, rfl, trivial⟩, rfl⟩ ?_ ?_
  · skip
    refine ⟨st, (Ow.nil (B := h.size) (T := 102) (r := rLine) (M := N) (h := hp1) (a := none)), wr, o_g, lp_g, mp_g, (fun hh => by have := hh.1; omega), dz.1, (fun _ hh => by have := hh.1; omega), (fun _ hh => by have := hh.1; omega), ?_⟩
    · omega
  rintro ⟨i, aL3, cL3, M_⟩ h' ⟨st, wL3, wr, o_g, lp_g, mp_g, nowL3_p_g, nowr_p_g, nopwL3_wr, nopwL3_o_g, hi0⟩
  show X _ _ _ _ (_ :: _) _ _
  have nwL3 := wL3.len'
  refine x_seq ?_
  refine x_region ?_
  refine r1 rfl (p_lss rfl rfl) ?_
  refine o_nil ?_
  refine x_seq ?_
  refine x_cond rfl (fun hc => ?_) (fun hc => ?_)
  · skip
    try simp only [Bool.and_eq_true, Bool.or_eq_true, Bool.not_eq_true', decide_eq_true_eq, decide_eq_false_iff_not, Bool.or_eq_false_iff, Bool.and_eq_false_iff, Bool.not_eq_false'] at hc
    have hlt : i < g.length := by omega
    have hgm : gt g (i : Int) ∈ g := gt_mem (by omega) (by omega)
    have e1 : (g.take (i + 1)).map (·.2) = (g.take i).map (·.2) ++ [(gt g (i : Int)).2] := by rw [gt_lt hlt, List.take_succ_eq_append_getElem hlt, List.map_append]; rfl
    have egm : gt (g.map (·.1)) (i : Int) = (gt g (i : Int)).1 := gt_map (by omega)
    obtain ⟨Rx, orow, hsub⟩ := grid_row o_g hgm
    refine x_skip ?_
    refine x_seq ?_
    refine x_block ?_
    refine x_seq ?_
    refine x_region ?_
    refine r1 rfl (p_mv rfl) ?_
    refine r1 rfl (p_as rfl) ?_
    refine o_nil ?_
    refine x_regd (fun hq => Kp (Ob aL3 cL3) h' hq) (by kernel_rfl) ?_
    have xd := Kp.refl (Ob aL3 cL3) h'
    refine d_take 0 rfl (by kernel_rfl) (by kernel_rfl) (by kernel_rfl) rfl xd (fun hq xq => p_mv rfl) ?_
    refine d_take 1 rfl (by kernel_rfl) (by kernel_rfl) (by kernel_rfl) rfl xd (fun hq xq => p_mv rfl) ?_
    refine d_take 2 rfl (by kernel_rfl) (by kernel_rfl) (by kernel_rfl) rfl xd (fun hq xq => p_nc rfl) ?_
    refine d_take 3 rfl (by kernel_rfl) (by kernel_rfl) (by kernel_rfl) rfl xd (fun hq xq => p_fld runUnderlying98 rfl sizeOf96 (by decide) rfl rfl) ?_
    refine d_take 4 rfl (by kernel_rfl) (by kernel_rfl) (by kernel_rfl) rfl xd (fun hq xq => p_ld isAgg96 rfl ((xq.bl nowL3_p_g lp_g).get rfl)) ?_
    refine d_take 5 rfl (by kernel_rfl) (by kernel_rfl) (by kernel_rfl) rfl xd (fun hq xq => p_mv rfl) ?_
    refine d_take 6 rfl (by kernel_rfl) (by kernel_rfl) (by kernel_rfl) rfl xd (fun hq xq => p_idx runUnderlying96 sizeOf90 rfl rfl (by rw [List.length_map]; omega) (wr.isi (i := (i : Int)) (by rw [List.length_map]; omega))) ?_
    obtain ⟨cs3, R3, C3⟩ := wr.at_ ((i : Int)) (by rw [List.length_map]; omega)
    rw [egm] at R3
    replace R3 : cs3 = [.pointer (some ⟨((gt g (i : Int)).1), 0, none⟩)] := R3
    obtain rfl := R3
    refine d_take 7 rfl (by kernel_rfl) (by kernel_rfl) (by kernel_rfl) rfl xd (fun hq xq => p_ld isAgg90 rfl ((C3.kp xq ((fun b hb hh => nopwL3_wr b hh hb) _ (wr.obi (i := (i : Int)) (by rw [List.length_map]; omega)))) 0 _ rfl)) ?_
    refine d_take 9 rfl (by kernel_rfl) (by kernel_rfl) (by kernel_rfl) rfl xd (fun hq xq => p_mv rfl) ?_
    refine d_take 10 rfl (by kernel_rfl) (by kernel_rfl) (by kernel_rfl) rfl xd (fun hq xq => p_nc rfl) ?_
    refine d_take 11 rfl (by kernel_rfl) (by kernel_rfl) (by kernel_rfl) rfl xd (fun hq xq => p_fld runUnderlying98 rfl sizeOf96 (by decide) rfl rfl) ?_
    refine d_take 12 rfl (by kernel_rfl) (by kernel_rfl) (by kernel_rfl) rfl xd (fun hq xq => p_ld isAgg96 rfl ((xq.bl nowL3_p_g lp_g).get rfl)) ?_
    refine d_take 13 rfl (by kernel_rfl) (by kernel_rfl) (by kernel_rfl) rfl xd (fun hq xq => p_mv rfl) ?_
    refine d_take 14 rfl (by kernel_rfl) (by kernel_rfl) (by kernel_rfl) rfl xd (fun hq xq => p_idx runUnderlying96 sizeOf90 rfl rfl (by rw [List.length_map]; omega) (wr.isi (i := (i : Int)) (by rw [List.length_map]; omega))) ?_
    refine d_take 15 rfl (by kernel_rfl) (by kernel_rfl) (by kernel_rfl) rfl xd (fun hq xq => p_ld isAgg90 rfl ((C3.kp xq ((fun b hb hh => nopwL3_wr b hh hb) _ (wr.obi (i := (i : Int)) (by rw [List.length_map]; omega)))) 0 _ rfl)) ?_
    refine d_one 8 (by kernel_rfl) rfl rfl (s_call call48 rfl (c_rowCells M_ h' st.lt ((gt g (i : Int)).2) orow (ht _ hgm).2 (ht _ hgm).1) ?_)
    rintro _ hp4 ⟨a4, c4, rfl, w4, w4_ge, x4⟩
    obtain ⟨M4, am4, w4⟩ := Oz.own w4 st x4
    have now4_p_g : ¬ Ob a4 c4 p_g := fun hh => by have := w4_ge _ hh; have := lp_g.lt; omega
    have nop4_wL3 : ∀ b, Ob aL3 cL3 b → ¬ Ob a4 c4 b := fun b hb hh => by have := w4_ge _ hh; have := wL3.lt b hb; omega
    have nop4_wr : ∀ b, Ob ra rc b → ¬ Ob a4 c4 b := fun b hb hh => by have := w4_ge _ hh; have := wr.lt b hb; omega
    have nop4_o_g : ∀ b, R_g b → ¬ Ob a4 c4 b := fun b hb hh => by have := w4_ge _ hh; have := Oj.lt _ o_g b hb; omega
    have nop4_orow : ∀ b, Rx b → ¬ Ob a4 c4 b := fun b hb hh => by have := w4_ge _ hh; have := Oj.lt _ orow b hb; omega
    have wL3 := wL3.kp (am4.gx x4) am4.sub (x4) fun _ _ hh => hh
    have wr := wr.kp (am4.gx x4) am4.sub (x4) fun _ _ hh => hh
    have o_g := Oj.gx o_g (am4.gx x4) am4.sub (x4)
    have orow := Oj.gx orow (am4.gx x4) am4.sub (x4)
    have lp_g := lp_g.lift (x4)
    have mp_g := am4.sub _ mp_g
    have st := st.own x4 am4 w4
    have xd := Kp.tr xd (x4)
    have nw4 := w4.len'
    refine ⟨xd, ?_⟩
    refine d_one 16 (by kernel_rfl) rfl rfl (s_call call49 rfl (c_rowWrap M4 hp4 st.lt ((gt g (i : Int)).2) orow) ?_)
    rintro _ hp5 ⟨rfl, x5⟩
    have wL3 := wL3.ext x5
    have w4 := w4.ext x5
    have wr := wr.ext x5
    have o_g := Oj.ext o_g x5
    have orow := Oj.ext orow x5
    have lp_g := lp_g.lift (x5)
    have st := st.ext x5
    have xd := Kp.tr xd (x5)
    refine ⟨xd, ?_⟩
    refine d_one 17 (by kernel_rfl) rfl rfl (sp (p_bs runUnderlying102 zeroValue102 pl102 rfl) ?_)
    refine ⟨xd, ?_⟩
    obtain ⟨M7, fz7, st7, s7⟩ := w4.fz st hN
    have wL3 := wL3.fzo fz7 nop4_wL3
    have wr := wr.fzo fz7 nop4_wr
    have o_g := Oj.fz o_g fz7 nop4_o_g
    have orow := Oj.fz orow fz7 nop4_orow
    have mp_g := fz7.keep _ mp_g now4_p_g
    have st := st7
    refine d_one 18 (by kernel_rfl) rfl rfl (s_bs runUnderlying27 sizeOf102 zeroValue102 rfl rfl rfl rfl rfl ?_)
    intro bb6 hb6 n6
    have nmb6 : ¬ M7 bb6 := fun hh => by have := st.lt _ hh; have := n6.at_; omega
    have wL3 := wL3.ext n6.ext
    have s7 := s7.gr (.ext n6.ext)
    have wr := wr.ext n6.ext
    have o_g := Oj.ext o_g n6.ext
    have orow := Oj.ext orow n6.ext
    have lp_g := lp_g.lift (n6.ext)
    have st := st.ext n6.ext
    have xd := Kp.tr xd (n6.ext)
    have s6 : Sl rLine M7 hb6 (some ⟨bb6, 0, none⟩) 1 ([((gt g (i : Int)).2)] : List Line) := n6.sl nmb6 rfl (els_cons (by exact ⟨_, _, rfl, s7⟩) els_nil)
    refine ⟨xd, ?_⟩
    refine d_one 19 (by kernel_rfl) rfl rfl (s_app runUnderlying27 runUnderlying27 sizeOf102 typeInfo102 zeroValue102 rfl rfl rfl rfl rfl rfl wL3 s6 (Nat.le_trans st.kp.size (Nat.le_refl _)) (by simp only [List.length_append, List.length_map, List.length_take, List.length_cons, List.length_nil]; omega) ?_)
    intro a9 c9 hp9 ap9 wf9
    obtain ⟨M9, am9⟩ := am ap9 wL3.mem
    have now9_p_g : ¬ Ob a9 c9 p_g := fun hh => nowL3_p_g (ap9.old _ lp_g.lt hh)
    have nop9_wr : ∀ b, Ob ra rc b → ¬ Ob a9 c9 b := fun b hb hh => (fun b hb hh => nopwL3_wr b hh hb) b hb (ap9.old _ (wr.lt b hb) hh)
    have nop9_o_g : ∀ b, R_g b → ¬ Ob a9 c9 b := fun b hb hh => (fun b hb hh => nopwL3_o_g b hh hb) b hb (ap9.old _ (Oj.lt _ o_g b hb) hh)
    have nop9_orow : ∀ b, Rx b → ¬ Ob a9 c9 b := fun b hb hh => (fun b hb hh => nopwL3_o_g b hh (hsub b hb)) b hb (ap9.old _ (Oj.lt _ orow b hb) hh)
    have w9_ := wf9 M9 am9
    have wr := wr.kp (am9.gr ap9 wL3.mem) am9.sub ap9.kp (fun b hb hh => nopwL3_wr b hh hb)
    have o_g := Oj.stab _ o_g (am9.gr ap9 wL3.mem) am9.sub ap9.kp (fun b hb hh => nopwL3_o_g b hh hb)
    have orow := Oj.stab _ orow (am9.gr ap9 wL3.mem) am9.sub ap9.kp (fun b hb hh => nopwL3_o_g b hh (hsub b hb))
    have lp_g := ap9.kp.bl nowL3_p_g lp_g
    have mp_g := am9.sub _ mp_g
    have st := st.app ap9 am9 (fun b hb => .inl (wL3.ge b hb))
    have xd := Kp.own xd ap9.kp (fun k hk hh => hh)
    have w9 := w9_
    refine ⟨xd, ?_⟩
    refine d_one 20 (by kernel_rfl) rfl rfl (sp (p_as rfl) ?_)
    refine ⟨xd, ?_⟩
    refine d_done (by kernel_rfl) ?_
    refine x_region ?_
    refine r1 rfl (p_add64 rfl rfl (by omega)) ?_
    refine r1 rfl (p_mv rfl) ?_
    refine o_nil ?_
    have te10 : ((g.take i).map (·.2)) ++ [((gt g (i : Int)).2)] = (g.take (i + 1)).map (·.2) := e1.symm
    rw [te10] at w9
    try rw [te10]
    refine ⟨(i + 1, a9, c9, M9), ⟨⟨(congrArg (fun z => some (Value.int .i64 z)) (by omega)), rfl, rfl, rfl, trivial⟩, rfl⟩, ?_, ?_⟩
    · skip
      refine ⟨st, w9, wr, o_g, lp_g, mp_g, now9_p_g, nowr_p_g, (fun b hb hh => nop9_wr b hh hb), (fun b hb hh => nop9_o_g b hh hb), ?_⟩
      · omega
    · (try dsimp only); omega
  · skip
    try simp only [Bool.and_eq_true, Bool.or_eq_true, Bool.not_eq_true', decide_eq_true_eq, decide_eq_false_iff_not, Bool.or_eq_false_iff, Bool.and_eq_false_iff, Bool.not_eq_false'] at hc
    have te11 : (g.take i).map (·.2) = g.map (·.2) := (by rw [List.take_of_length_le (by omega)])
    rw [te11] at wL3
    try rw [te11]
    refine x_exit ?_
    refine x_seq ?_
    refine x_region ?_
    refine r1 rfl (p_mv rfl) ?_
    refine r1 rfl (p_as rfl) ?_
    refine o_nil ?_
    refine x_ret (fin1 rfl ?_)
    exact ⟨_, _, rfl, (wL3.ret st), wL3.ge, st.x⟩
end Go.Proofs
