import Derived.Test.YteeienbhmkiloaaGreatDoorW10
set_option linter.unusedSimpArgs false
set_option linter.unusedVariables false
namespace Go.Proofs
open Go.Lx Tryz

theorem c_AllO (N : Nat → Prop) (h : Hp) (hN : ∀ b, N b → b < h.size) (b : List Int) {a_b : Option Addr} {c_b : Nat} (s_b : Sl r8 N h a_b c_b b) (hl : b.length ≤ 100000) : C prog 28 [.slice a_b b.length c_b] h (fun v h' => ∃ (ar : Option Addr) (cr : Nat), v = .slice ar (partsW b 0).length cr ∧ Oz 103 rGotT N h h' ar cr (partsW b 0) ∧ (∀ b, Ob ar cr b → h.size ≤ b) ∧ Ext h h') := by
  have st := St.init hN
  have ns_b := s_b.ll
  have hbd := s_b.bnd
  refine enter func28 rfl ntmps28 results28 rfl rfl ?_
  refine x_seq ?_
  refine x_region ?_
  refine r1 rfl (p_as rfl) ?_
  refine o_nil ?_
  refine x_seq ?_
  refine x_region ?_
  refine r1 rfl (p_as rfl) ?_
  refine o_nil ?_
  refine x_seq ?_
  refine x_seq ?_
  refine x_region ?_
  refine r1 rfl (p_as rfl) ?_
  refine o_nil ?_
  refine x_block ?_
  refine x_loope (σ := Nat × (List GotT) × (Option Addr) × Nat × (Nat → Prop)) (fun st_ E0 => match st_ with | (at_, out, aL3, cL3, M_) => (4, .int .i64 (at_ : Int)) :: (3, .slice aL3 out.length cL3) :: E0) [(0, _)] (fun st_ h' => match st_ with | (at_, out, aL3, cL3, M_) => St N h (fun _ => False) M_ h' ∧ Ow h.size 103 rGotT M_ h' aL3 cL3 out ∧ (at_ ≤ b.length) ∧ (out ++ partsW (b.drop at_) at_ = partsW b 0) ∧ (out.length ≤ at_)) (fun st_ => match st_ with | (at_, out, aL3, cL3, M_) => b.length - at_) (0, [], none, 0, N) ⟨⟨rfl, rfl, rfl, trivial⟩, rfl⟩ ?_ ?_
  · skip
    refine ⟨st, (Ow.nil (B := h.size) (T := 103) (r := rGotT) (M := N) (h := h) (a := none)), ?_, ?_, ?_⟩
    · omega
    · simp
    · simp
  rintro ⟨at_, out, aL3, cL3, M_⟩ h' ⟨st, wL3, hi0, hi1, hi2⟩
  show X _ _ _ _ (_ :: _) _ _
  have nwL3 := wL3.len'
  refine x_seq ?_
  refine x_seq ?_
  refine x_region ?_
  refine r1 rfl (p_mv rfl) ?_
  refine r1 rfl (p_mv rfl) ?_
  refine r1 rfl (p_len runUnderlying33 rfl) ?_
  refine r1 rfl (p_lss rfl rfl) ?_
  refine o_nil ?_
  refine x_cond rfl (fun hc => ?_) (fun hc => ?_)
  · skip
    try simp only [Bool.and_eq_true, Bool.or_eq_true, Bool.not_eq_true', decide_eq_true_eq, decide_eq_false_iff_not, Bool.or_eq_false_iff, Bool.and_eq_false_iff, Bool.not_eq_false'] at hc
    have hne : b.drop at_ ≠ [] := by intro e; have := congrArg List.length e; rw [List.length_drop] at this; simp at this; omega
    have hbs : ∀ x ∈ b.drop at_, BU8 x := fun x hx => hbd x (List.mem_of_mem_drop hx)
    have hrl := reach_le _ hne
    have hdl : (b.drop at_).length = b.length - at_ := List.length_drop
    have hpb := part_bd (at_ := at_) hbs hne (by omega)
    have hpl := part_len (b.drop at_) at_
    have hst : stepN (b.drop at_) ≤ b.length - at_ ∧ 1 ≤ stepN (b.drop at_) := by unfold stepN; omega
    have e0 : (at_ : Int).toNat = at_ := by omega
    refine x_skip ?_
    refine x_block ?_
    refine x_seq ?_
    refine x_region ?_
    refine r1 rfl (p_mv rfl) ?_
    refine r1 rfl (p_mv rfl) ?_
    have sc1 := (s_b.gr st.gr).cp
    have s1 := (s_b.gr st.gr).from_ ((at_ : Int)).toNat (by omega)
    refine r1 rfl (p_slfrom runUnderlying33 sizeOf5 rfl rfl (n := (b.drop ((at_ : Int)).toNat).length) (by omega) (by rw [List.length_drop]; try omega)) ?_
    refine r1 rfl (p_mv rfl) ?_
    refine o1 rfl (s_call call50 rfl (c_part M_ h' st.lt (b.drop ((at_ : Int)).toNat) (at_ : Int) s1 (by rw [e0]; omega) (by rw [e0]; omega)) ?_)
    rintro _ hp2 ⟨rfl, p2_0, p2_1, p2_2, p2_3, x2⟩
    have wL3 := wL3.ext x2
    have st := st.ext x2
    refine o1 rfl (s_al zeroValue103 rfl ?_)
    intro b5 hb3 n3
    obtain ⟨M3, nm3⟩ := nm (M := M_) n3
    have gb5 : h.size ≤ b5 := n3.ge st.kp
    have nob5_wL3 : ¬ Ob aL3 cL3 b5 := fun hh => by have := wL3.lt _ hh; have := n3.at_; omega
    have wL3 := wL3.kp (nm3.gr n3) nm3.sub (n3.ext) fun _ _ hh => hh
    have st := st.new n3 nm3
    have lb5 := n3.bl
    have mb5 := nm3.mem
    refine o0 (s_sta rfl rfl sizeOf103 rfl lb5 rfl ?_)
    intro hu4 u4
    have wL3 := wL3.upd u4 mb5 nob5_wL3
    have lb5 := u4.bl
    have st := st.upd u4 (.inl gb5)
    replace lb5 : Bl hu4 b5 [_, _, _, _, _] _ := lb5
    refine o_nil ?_
    refine x_seq ?_
    simp only [e0] at *
    have e6 : (at_ : Int) + (partF (b.drop at_) at_).len = ((at_ + stepN (b.drop at_) : Nat) : Int) := by rw [hpl]; omega
    refine x_region ?_
    refine r1 rfl (p_mv rfl) ?_
    refine r1 rfl (p_lda isAgg103 rfl (lb5.gets rfl) sizeOf103) ?_
    refine o1 rfl (s_bs runUnderlying72 sizeOf103 zeroValue103 rfl rfl rfl rfl rfl ?_)
    intro bb5 hb5 n5
    have nmb5 : ¬ M3 bb5 := fun hh => by have := st.lt _ hh; have := n5.at_; omega
    have wL3 := wL3.ext n5.ext
    have lb5 := lb5.lift (n5.ext)
    have st := st.ext n5.ext
    have s5 : Sl rGotT M3 hb5 (some ⟨bb5, 0, none⟩) 1 ([(partF (b.drop ((at_ : Int)).toNat) (at_ : Int))] : List GotT) := n5.sl nmb5 rfl (els_cons (by exact ⟨rfl, p2_0, p2_1, p2_2, p2_3⟩) els_nil)
    refine o1 rfl (s_app runUnderlying72 runUnderlying72 sizeOf103 typeInfo103 zeroValue103 rfl rfl rfl rfl rfl rfl wL3 s5 (Nat.le_trans st.kp.size (Nat.le_refl _)) (by first | omega | (simp only [List.length_append, List.length_cons, List.length_nil]; omega)) ?_)
    intro a7 c7 hp7 ap7 wf7
    obtain ⟨M7, am7⟩ := am ap7 wL3.mem
    have now7_b5 : ¬ Ob a7 c7 b5 := fun hh => nob5_wL3 (ap7.old _ lb5.lt hh)
    have w7_ := wf7 M7 am7
    have lb5 := ap7.kp.bl nob5_wL3 lb5
    have mb5 := am7.sub _ mb5
    have st := st.app ap7 am7 (fun b hb => .inl (wL3.ge b hb))
    have w7 := w7_
    refine r1 rfl (p_as rfl) ?_
    refine o_nil ?_
    refine x_region ?_
    refine r1 rfl (p_mv rfl) ?_
    refine r1 rfl (p_fld runUnderlying103 rfl sizeOf3 (by decide) rfl rfl) ?_
    refine r1 rfl (p_ld isAgg3 rfl (lb5.get rfl)) ?_
    refine r1 rfl (p_add64 rfl rfl (by omega)) ?_
    refine r1 rfl (p_as rfl) ?_
    refine o_nil ?_
    refine ⟨(at_ + stepN (b.drop at_), out ++ [partF (b.drop at_) at_], a7, c7, M7), ⟨⟨(congrArg (fun z => some (Value.int .i64 z)) e6), rfl, rfl, trivial⟩, rfl⟩, ?_, ?_⟩
    · skip
      refine ⟨st, w7, ?_, ?_, ?_⟩
      · omega
      · have : partsW (b.drop at_) at_ = partF (b.drop at_) at_ :: partsW ((b.drop at_).drop (stepN (b.drop at_))) (at_ + stepN (b.drop at_)) := by
          rw [partsW, dif_neg hne]
        rw [this] at hi1
        rw [List.append_assoc, List.singleton_append, ← hi1, List.drop_drop]
        rfl
      · simp; omega
    · (try dsimp only); omega
  · skip
    try simp only [Bool.and_eq_true, Bool.or_eq_true, Bool.not_eq_true', decide_eq_true_eq, decide_eq_false_iff_not, Bool.or_eq_false_iff, Bool.and_eq_false_iff, Bool.not_eq_false'] at hc
    have e0 : b.drop at_ = [] := List.drop_of_length_le (by omega)
    rw [e0, partsW, dif_pos rfl, List.append_nil] at hi1
    have te8 : out = (partsW b 0) := hi1
    rw [te8] at wL3
    try rw [te8]
    refine x_exit ?_
    refine x_seq ?_
    refine x_region ?_
    refine r1 rfl (p_mv rfl) ?_
    refine r1 rfl (p_as rfl) ?_
    refine o_nil ?_
    refine x_ret (fin1 rfl ?_)
    exact ⟨_, _, rfl, (wL3.ret st), wL3.ge, st.x⟩
/-- The parts of raw bytes that are told: all but one that is held. -/
def told (s : List Int) : List GotT := if tailF s > 0 then (partsW s 0).take ((partsW s 0).length - 1) else partsW s 0
def rdrFeed (r : Rdr) (b : List Int) : Rdr := ⟨r.raw ++ b, (told (r.raw ++ b)).length, r.done, r.cur ++ ((told (r.raw ++ b)).drop r.came).map (·.r)⟩
def rdrFlush (r : Rdr) : Rdr := ⟨[], 0, r.done, r.cur ++ ((partsW r.raw 0).drop r.came).map (·.r)⟩
theorem c_rflush (N : Nat → Prop) (h : Hp) (hN : ∀ b, N b → b < h.size) (r : Rdr) {p_r : Nat} {R_r : Nat → Prop} (o_r : (oRdr p_r).At R_r r N h) (hl : r.raw.length ≤ 100000) (hc : r.came ≤ (partsW r.raw 0).length) (hcur : r.cur.length ≤ 800000) : C prog 15 [.pointer (some ⟨p_r, 0, none⟩)] h (fun v h' => ∃ (N' : Nat → Prop) (R'_r : Nat → Prop), v = .tuple #[] ∧ Gm R_r N h N' h' ∧ (∀ b, b < h.size → R'_r b → R_r b) ∧ (oRdr p_r).At R'_r (rdrFlush r) N' h') := by
  have st := St.initS (S := R_r) hN fun b hb => Oj.mem _ o_r b hb
  refine enter func15 rfl ntmps15 results15 rfl rfl ?_
  obtain ⟨ra, rc, oa, oc, ca, cc, ph, lp_r, wr, wo, wc, dn, ⟨qr0, qr1, qr2, qr3⟩, ⟨dz1, dz2, dz3, dz4, dz5, dz6⟩, rm⟩ := id o_r
  have mp_r := (rm _ qr0).1
  have pwr : ∀ b, Ob ra rc b → h.size ≤ b ∨ R_r b := fun b hb => .inr (qr1 b hb)
  have hpl := parts_len (s := r.raw) 0
  refine x_seq ?_
  refine x_regdt 11 (fun hq => Ext h hq) (by kernel_rfl) ⟨by kernel_rfl, by kernel_rfl, by kernel_rfl, by kernel_rfl⟩ ?_
  intro tl
  have xd := Ext.refl h
  refine e_take 0 tl rfl rfl (by kernel_rfl) (by kernel_rfl) rfl xd (fun hq xq => p_mv rfl) ?_
  refine e_take 1 tl rfl rfl (by kernel_rfl) (by kernel_rfl) rfl xd (fun hq xq => p_mv rfl) ?_
  refine e_take 2 tl rfl rfl (by kernel_rfl) (by kernel_rfl) rfl xd (fun hq xq => p_nc rfl) ?_
  refine e_take 3 tl rfl rfl (by kernel_rfl) (by kernel_rfl) rfl xd (fun hq xq => p_fld runUnderlying49 rfl sizeOf33 (by decide) rfl rfl) ?_
  refine e_take 4 tl rfl rfl (by kernel_rfl) (by kernel_rfl) rfl xd (fun hq xq => p_ld isAgg33 rfl ((lp_r.lift xq).get rfl)) ?_
  refine e_take 6 tl rfl rfl (by kernel_rfl) (by kernel_rfl) rfl xd (fun hq xq => p_mv rfl) ?_
  refine e_take 7 tl rfl rfl (by kernel_rfl) (by kernel_rfl) rfl xd (fun hq xq => p_nc rfl) ?_
  refine e_take 8 tl rfl rfl (by kernel_rfl) (by kernel_rfl) rfl xd (fun hq xq => p_fld runUnderlying49 rfl sizeOf3 (by decide) rfl rfl) ?_
  refine e_take 9 tl rfl rfl (by kernel_rfl) (by kernel_rfl) rfl xd (fun hq xq => p_ld isAgg3 rfl ((lp_r.lift xq).get rfl)) ?_
  refine e_one 5 (by kernel_rfl) rfl rfl rfl (s_call call28 rfl (c_AllO (fun b => N b ∧ ¬ Ob ra rc b) h (fun b hb => st.lt b hb.1) r.raw wr.tf (by first | omega | (simp only [List.length_append, List.length_cons, List.length_nil, List.length_map, List.length_take, List.length_drop, List.length_replicate]; omega))) ?_)
  rintro _ hp2 ⟨a2, c2, rfl, w2, w2_ge, x2⟩
  have w2 := Ow.fl (M := fun b => N b ∨ Ob a2 c2 b) (show Fl rGotT from fun h => h) w2 (fun b hb => .inr hb)
  obtain ⟨M2, am2, w2⟩ := Oz.own w2 st x2
  have now2_p_r : ¬ Ob a2 c2 p_r := fun hh => by have := w2_ge _ hh; have := lp_r.lt; omega
  have nop2_wr : ∀ b, Ob ra rc b → ¬ Ob a2 c2 b := fun b hb hh => by have := w2_ge _ hh; have := wr.lt b hb; omega
  have nop2_o_r : ∀ b, R_r b → ¬ Ob a2 c2 b := fun b hb hh => by have := w2_ge _ hh; have := Oj.lt _ o_r b hb; omega
  have wr := wr.kp (am2.gx x2) am2.sub (x2) fun _ _ hh => hh
  have o_r := Oj.gx o_r (am2.gx x2) am2.sub (x2)
  have lp_r := lp_r.lift (x2)
  have mp_r := am2.sub _ mp_r
  have st := st.own x2 am2 w2
  have xd := xd.trans (x2)
  have nw2 := w2.len'
  obtain ⟨M3, fz3, st3, s3⟩ := w2.fz st hN
  have wr := wr.fzo fz3 nop2_wr
  have o_r := Oj.fz o_r fz3 nop2_o_r
  have mp_r := fz3.keep _ mp_r now2_p_r
  have st := st3
  refine ⟨xd, ?_⟩
  have sc4 := s3.cp
  have s4 := s3.from_ ((r.came : Int)).toNat (by omega)
  refine e_one 10 (by kernel_rfl) rfl rfl rfl (sp (p_slfrom runUnderlying72 sizeOf103 rfl rfl (n := ((partsW r.raw 0).drop ((r.came : Int)).toNat).length) (by omega) (by rw [List.length_drop]; try omega)) ?_)
  refine ⟨xd, ?_⟩
  refine e_end (by kernel_rfl) ?_
  refine o1 rfl (s_call call30 rfl (c_tell M3 hp2 st.lt r ((partsW r.raw 0).drop ((r.came : Int)).toNat) o_r s4 (by first | omega | (simp only [List.length_append, List.length_cons, List.length_nil, List.length_map, List.length_take, List.length_drop, List.length_replicate]; omega))) ?_)
  rintro _ hp5 ⟨M5, R5_0, rfl, gm5, od5_0, oo5_0⟩
  have oe5_0 : ∀ b, b < h.size → R5_0 b → R_r b := fun b hb hr => (fun b _ hb => hb) b hb (od5_0 b (Nat.lt_of_lt_of_le hb st.kp.size) hr)
  have pw5_0 : ∀ b, R5_0 b → h.size ≤ b ∨ R_r b := fun b hb => if hlt : b < h.size then .inr (oe5_0 b hlt hb) else .inl (by omega)
  have st := st.gm gm5 (fun b hb => .inr hb)
  have o_r := oo5_0
  refine o_nil ?_
  obtain ⟨ra, rc, oa, oc, ca, cc, ph, lp_r, wr, wo, wc, dn, ⟨qr0', qr1, qr2, qr3⟩, ⟨dz1, dz2, dz3, dz4, dz5, dz6⟩, rm⟩ := o_r
  have mp_r := (rm _ qr0').1
  have odp : ∀ b, b < h.size → R5_0 b → R_r b := oe5_0
  have pwA : ∀ b, R5_0 b → h.size ≤ b ∨ R_r b := pw5_0
  have pwr : ∀ b, Ob ra rc b → h.size ≤ b ∨ R_r b := fun b hb => pwA b (qr1 b hb)
  have pwo : ∀ b, Ob oa oc b → h.size ≤ b ∨ R_r b := fun b hb => pwA b (qr2 b hb)
  have pwc : ∀ b, Ob ca cc b → h.size ≤ b ∨ R_r b := fun b hb => pwA b (qr3 b hb)
  refine x_region ?_
  refine r1 rfl (p_mv rfl) ?_
  refine r1 rfl (p_mv rfl) ?_
  refine r1 rfl (p_nc rfl) ?_
  refine r1 rfl (p_fld runUnderlying49 rfl sizeOf33 (by decide) rfl rfl) ?_
  refine o0 (s_sto sizeOf33 rfl rfl rfl lp_r rfl ?_)
  intro hu6 u6
  have wc := wc.upd u6 mp_r dz3
  have wo := wo.upd u6 mp_r dz2
  have dn := dn.gr (.upd u6 mp_r)
  have lp_r := u6.bl
  have st := st.upd u6 (.inr qr0)
  replace lp_r : Bl hu6 p_r [_, _, _] _ := lp_r
  refine r1 rfl (p_nc rfl) ?_
  refine r1 rfl (p_fld runUnderlying49 rfl sizeOf3 (by decide) rfl rfl) ?_
  refine o0 (s_sto sizeOf3 rfl rfl rfl lp_r rfl ?_)
  intro hu7 u7
  have wc := wc.upd u7 mp_r dz3
  have wo := wo.upd u7 mp_r dz2
  have dn := dn.gr (.upd u7 mp_r)
  have lp_r := u7.bl
  have st := st.upd u7 (.inr qr0)
  replace lp_r : Bl hu7 p_r [_, _, _] _ := lp_r
  refine o_nil ?_
  refine fin0 ?_
  have o_r : (oRdr p_r).At (RdrR p_r none 0 oa oc ca cc) (rdrFlush r) M5 hu7 := rdr_mk (raw := []) (came := 0) lp_r mp_r (.nil (B := 0)) wo wc dn (fun hh => by have := hh.1; omega) dz2 dz3 (fun _ hh => by have := hh.1; omega) (fun _ hh => by have := hh.1; omega) dz6
  exact ⟨M5, (RdrR p_r none 0 oa oc ca cc), rfl, st.out, (rdr_od qr0 (fun b hb => (nob b hb).elim) pwo pwc), o_r⟩
theorem told_le (s : List Int) : (told s).length ≤ s.length := by
  have := parts_len (s := s) 0
  unfold told
  split
  · rw [List.length_take]; omega
  · exact this
theorem c_rfeed (N : Nat → Prop) (h : Hp) (hN : ∀ b, N b → b < h.size) (r : Rdr) (b : List Int) {p_r : Nat} {R_r : Nat → Prop} {a_b : Option Addr} {c_b : Nat} (o_r : (oRdr p_r).At R_r r N h) (s_b : Sl r8 N h a_b c_b b) (hl : r.raw.length + b.length ≤ 100000) (hc : r.came ≤ (told (r.raw ++ b)).length) (hcur : r.cur.length ≤ 800000) : C prog 14 [.pointer (some ⟨p_r, 0, none⟩), .slice a_b b.length c_b] h (fun v h' => ∃ (N' : Nat → Prop) (R'_r : Nat → Prop), v = .tuple #[] ∧ Gm R_r N h N' h' ∧ (∀ b, b < h.size → R'_r b → R_r b) ∧ (oRdr p_r).At R'_r (rdrFeed r b) N' h') := by
  have st := St.initS (S := R_r) hN fun b hb => Oj.mem _ o_r b hb
  have ns_b := s_b.ll
  refine enter func14 rfl ntmps14 results14 rfl rfl ?_
  obtain ⟨ra, rc, oa, oc, ca, cc, ph, lp_r, wr, wo, wc, dn, ⟨qr0, qr1, qr2, qr3⟩, ⟨dz1, dz2, dz3, dz4, dz5, dz6⟩, rm⟩ := o_r
  have mp_r := (rm _ qr0).1
  have pwr : ∀ b, Ob ra rc b → h.size ≤ b ∨ R_r b := fun b hb => .inr (qr1 b hb)
  have pwo : ∀ b, Ob oa oc b → h.size ≤ b ∨ R_r b := fun b hb => .inr (qr2 b hb)
  have pwc : ∀ b, Ob ca cc b → h.size ≤ b ∨ R_r b := fun b hb => .inr (qr3 b hb)
  have hrl : (r.raw ++ b).length ≤ 100000 := by rw [List.length_append]; omega
  have htl := told_le (r.raw ++ b)
  have hpl := parts_len (s := r.raw ++ b) 0
  refine x_seq ?_
  refine x_region ?_
  refine r1 rfl (p_mv rfl) ?_
  refine r1 rfl (p_mv rfl) ?_
  refine r1 rfl (p_nc rfl) ?_
  refine r1 rfl (p_fld runUnderlying49 rfl sizeOf33 (by decide) rfl rfl) ?_
  refine r1 rfl (p_ld isAgg33 rfl (lp_r.get rfl)) ?_
  refine r1 rfl (p_mv rfl) ?_
  refine o1 rfl (s_app runUnderlying33 runUnderlying33 sizeOf5 typeInfo5 zeroValue5 rfl rfl rfl rfl rfl rfl wr (s_b.gr st.gr) (Nat.zero_le _) (by first | omega | (simp only [List.length_append, List.length_cons, List.length_nil]; omega)) ?_)
  intro a2 c2 hp2 ap2 wf2
  obtain ⟨M2, am2⟩ := am ap2 wr.mem
  have now2_p_r : ¬ Ob a2 c2 p_r := fun hh => dz1 (ap2.old _ lp_r.lt hh)
  have nop2_wc : ∀ b, Ob ca cc b → ¬ Ob a2 c2 b := fun b hb hh => (fun b hb hh => dz5 b hh hb) b hb (ap2.old _ (wc.lt b hb) hh)
  have nop2_wo : ∀ b, Ob oa oc b → ¬ Ob a2 c2 b := fun b hb hh => (fun b hb hh => dz4 b hh hb) b hb (ap2.old _ (wo.lt b hb) hh)
  have pw2 : ∀ b, Ob a2 c2 b → h.size ≤ b ∨ R_r b := fun b hb => if hlt : b < h.size then pwr b (ap2.old b hlt hb) else .inl (by have := st.kp.size; omega)
  have w2_ := wf2 M2 am2
  have wc := wc.kp (am2.gr ap2 wr.mem) am2.sub ap2.kp (fun b hb hh => dz5 b hh hb)
  have wo := wo.kp (am2.gr ap2 wr.mem) am2.sub ap2.kp (fun b hb hh => dz4 b hh hb)
  have dn := dn.gr (am2.gr ap2 wr.mem)
  have lp_r := ap2.kp.bl dz1 lp_r
  have mp_r := am2.sub _ mp_r
  have st := st.app ap2 am2 pwr
  have w2 := w2_
  refine r1 rfl (p_nc rfl) ?_
  refine r1 rfl (p_fld runUnderlying49 rfl sizeOf33 (by decide) rfl rfl) ?_
  refine o0 (s_sto sizeOf33 rfl rfl rfl lp_r rfl ?_)
  intro hu3 u3
  have wc := wc.upd u3 mp_r dz3
  have w2 := w2.upd u3 mp_r now2_p_r
  have wo := wo.upd u3 mp_r dz2
  have dn := dn.gr (.upd u3 mp_r)
  have lp_r := u3.bl
  have st := st.upd u3 (.inr qr0)
  replace lp_r : Bl hu3 p_r [_, _, _] _ := lp_r
  refine o_nil ?_
  refine x_seq ?_
  refine x_region ?_
  refine r1 rfl (p_mv rfl) ?_
  refine r1 rfl (p_nc rfl) ?_
  refine r1 rfl (p_fld runUnderlying49 rfl sizeOf33 (by decide) rfl rfl) ?_
  refine r1 rfl (p_ld isAgg33 rfl (lp_r.get rfl)) ?_
  refine o1 rfl (s_call call28 rfl (c_AllO (fun b => M2 b ∧ ¬ Ob a2 c2 b) hu3 (fun b hb => st.lt b hb.1) (r.raw ++ b) w2.tf (by first | omega | (simp only [List.length_append, List.length_cons, List.length_nil, List.length_map, List.length_take, List.length_drop, List.length_replicate]; omega))) ?_)
  rintro _ hp4 ⟨a4, c4, rfl, w4, w4_ge, x4⟩
  have w4 := Ow.fl (M := fun b => M2 b ∨ Ob a4 c4 b) (show Fl rGotT from fun h => h) w4 (fun b hb => .inr hb)
  obtain ⟨M4, am4, w4⟩ := Oz.own w4 st x4
  have now4_p_r : ¬ Ob a4 c4 p_r := fun hh => by have := w4_ge _ hh; have := lp_r.lt; omega
  have nop4_wc : ∀ b, Ob ca cc b → ¬ Ob a4 c4 b := fun b hb hh => by have := w4_ge _ hh; have := wc.lt b hb; omega
  have nop4_w2 : ∀ b, Ob a2 c2 b → ¬ Ob a4 c4 b := fun b hb hh => by have := w4_ge _ hh; have := w2.lt b hb; omega
  have nop4_wo : ∀ b, Ob oa oc b → ¬ Ob a4 c4 b := fun b hb hh => by have := w4_ge _ hh; have := wo.lt b hb; omega
  have wc := wc.kp (am4.gx x4) am4.sub (x4) fun _ _ hh => hh
  have w2 := w2.kp (am4.gx x4) am4.sub (x4) fun _ _ hh => hh
  have wo := wo.kp (am4.gx x4) am4.sub (x4) fun _ _ hh => hh
  have dn := dn.gr (am4.gx x4)
  have lp_r := lp_r.lift (x4)
  have mp_r := am4.sub _ mp_r
  have st := st.own x4 am4 w4
  have nw4 := w4.len'
  obtain ⟨M5, fz5, st5, s5⟩ := w4.fz st hN
  have wc := wc.fzo fz5 nop4_wc
  have w2 := w2.fzo fz5 nop4_w2
  have wo := wo.fzo fz5 nop4_wo
  have dn := dn.mono fz5.sub
  have mp_r := fz5.keep _ mp_r now4_p_r
  have st := st5
  refine r1 rfl (p_as rfl) ?_
  refine o_nil ?_
  refine x_cute (σ := (Option Addr) × Nat × (Nat → Prop)) (fun st_ E0 => match st_ with | (aL4, cL4, M_) => (4, .slice aL4 (told (r.raw ++ b)).length cL4) :: E0) [(0, .pointer (some ⟨p_r, 0, none⟩))] (fun st_ h' => match st_ with | (aL4, cL4, M_) => St N h R_r M_ h' ∧ Sl rGotT M_ h' aL4 cL4 (told (r.raw ++ b)) ∧ Ow 0 21 r32 M_ h' ca cc r.cur ∧ Ow 0 5 r8 M_ h' a2 c2 (r.raw ++ b) ∧ Ow 0 32 rPh M_ h' oa oc (ph ++ [(⟨ca, r.cur.length, cc⟩ : Ph)]) ∧ Dn M_ h' ph r.done ∧ Bl h' p_r [.slice a2 (r.raw ++ b).length c2, .int .i64 (r.came : Int), .slice oa (r.done.length + 1) oc] 49 ∧ M_ p_r ∧ (¬ Ob ca cc p_r) ∧ (¬ Ob a2 c2 p_r) ∧ (¬ Ob oa oc p_r) ∧ (∀ b, Ob ca cc b → ¬ Ob a2 c2 b) ∧ (∀ b, Ob ca cc b → ¬ Ob oa oc b) ∧ (∀ b, Ob a2 c2 b → ¬ Ob oa oc b)) ?_ ?_
  · skip
    refine x_seq ?_
    refine x_region ?_
    refine r1 rfl (p_mv rfl) ?_
    refine r1 rfl (p_nc rfl) ?_
    refine r1 rfl (p_fld runUnderlying49 rfl sizeOf33 (by decide) rfl rfl) ?_
    refine r1 rfl (p_ld isAgg33 rfl (lp_r.get rfl)) ?_
    refine o1 rfl (s_call call29 rfl (c_Tail (fun b => M5 b ∧ ¬ Ob a2 c2 b) hp4 (fun b hb => st.lt b hb.1) (r.raw ++ b) w2.tf (by first | omega | (simp only [List.length_append, List.length_cons, List.length_nil, List.length_map, List.length_take, List.length_drop, List.length_replicate]; omega))) ?_)
    rintro _ hp6 ⟨rfl, x6⟩
    have wc := wc.ext x6
    have s5 := s5.gr (.ext x6)
    have w2 := w2.ext x6
    have wo := wo.ext x6
    have dn := dn.gr (.ext x6)
    have lp_r := lp_r.lift (x6)
    have st := st.ext x6
    refine r1 rfl (p_gtr rfl rfl) ?_
    refine o_nil ?_
    refine x_cond rfl (fun htt => ?_) (fun htt => ?_)
    · skip
      try simp only [Bool.and_eq_true, Bool.or_eq_true, Bool.not_eq_true', decide_eq_true_eq, decide_eq_false_iff_not, Bool.or_eq_false_iff, Bool.and_eq_false_iff, Bool.not_eq_false'] at htt
      have hpn : partsW (r.raw ++ b) 0 ≠ [] := by intro e; unfold tailF at htt; rw [if_pos e] at htt; omega
      have hpp := List.length_pos_iff.2 hpn
      refine x_region ?_
      refine r1 rfl (p_mv rfl) ?_
      refine r1 rfl (p_mv rfl) ?_
      refine r1 rfl (p_len runUnderlying72 rfl) ?_
      refine r1 rfl (p_sub64 rfl rfl (by omega)) ?_
      have sc7 := s5.cp
      have s7 := s5.to ((((partsW (r.raw ++ b) 0).length : Nat) : Int) - 1).toNat (by omega)
      refine r1 rfl (p_slto runUnderlying72 sizeOf103 rfl rfl (n := ((partsW (r.raw ++ b) 0).take ((((partsW (r.raw ++ b) 0).length : Nat) : Int) - 1).toNat).length) (by omega) (by rw [List.length_take]; omega)) ?_
      refine r1 rfl (p_as rfl) ?_
      refine o_nil ?_
      have te8 : (partsW (r.raw ++ b) 0).take ((((partsW (r.raw ++ b) 0).length : Nat) : Int) - 1).toNat = told (r.raw ++ b) := (by unfold told; rw [if_pos (by omega)]; congr 1; omega)
      rw [te8] at s7
      try rw [te8]
      refine ⟨(a4, c4, M5), ⟨⟨rfl, rfl, trivial⟩, rfl⟩, ?_⟩
      · skip
        refine ⟨st, s7, wc, w2, wo, dn, lp_r, mp_r, dz3, now2_p_r, dz2, nop2_wc, (fun b hb hh => dz6 b hh hb), (fun b hb hh => nop2_wo b hh hb)⟩
    · skip
      try simp only [Bool.and_eq_true, Bool.or_eq_true, Bool.not_eq_true', decide_eq_true_eq, decide_eq_false_iff_not, Bool.or_eq_false_iff, Bool.and_eq_false_iff, Bool.not_eq_false'] at htt
      have te9 : partsW (r.raw ++ b) 0 = told (r.raw ++ b) := (by unfold told; rw [if_neg (by omega)])
      rw [te9] at s5
      try rw [te9]
      refine x_skip ?_
      refine ⟨(a4, c4, M5), ⟨⟨rfl, rfl, trivial⟩, rfl⟩, ?_⟩
      · skip
        refine ⟨st, s5, wc, w2, wo, dn, lp_r, mp_r, dz3, now2_p_r, dz2, nop2_wc, (fun b hb hh => dz6 b hh hb), (fun b hb hh => nop2_wo b hh hb)⟩
  · skip
    rintro ⟨aL4, cL4, M_⟩ h' ⟨st, sL4, wc, w2, wo, dn, lp_r, mp_r, nowc_p_r, now2_p_r, nowo_p_r, nopwc_w2, nopwc_wo, nopw2_wo⟩
    show X _ _ _ _ (_ :: _) _ _
    have nsL4 := sL4.ll
    have o_r : (oRdr p_r).At (RdrR p_r a2 c2 oa oc ca cc) ⟨r.raw ++ b, r.came, r.done, r.cur⟩ M_ h' := rdr_mk lp_r mp_r w2 wo wc dn now2_p_r nowo_p_r nowc_p_r nopw2_wo (fun b hb hh => nopwc_w2 b hh hb) (fun b hb hh => nopwc_wo b hh hb)
    refine x_seq ?_
    refine x_region ?_
    refine r1 rfl (p_mv rfl) ?_
    refine r1 rfl (p_mv rfl) ?_
    refine r1 rfl (p_mv rfl) ?_
    refine r1 rfl (p_nc rfl) ?_
    refine r1 rfl (p_fld runUnderlying49 rfl sizeOf3 (by decide) rfl rfl) ?_
    refine r1 rfl (p_ld isAgg3 rfl (lp_r.get rfl)) ?_
    have sc10 := sL4.cp
    have s10 := sL4.from_ ((r.came : Int)).toNat (by omega)
    refine r1 rfl (p_slfrom runUnderlying72 sizeOf103 rfl rfl (n := ((told (r.raw ++ b)).drop ((r.came : Int)).toNat).length) (by omega) (by rw [List.length_drop]; try omega)) ?_
    refine o1 rfl (s_call call30 rfl (c_tell M_ h' st.lt (⟨r.raw ++ b, r.came, r.done, r.cur⟩ : Rdr) ((told (r.raw ++ b)).drop ((r.came : Int)).toNat) o_r s10 (by first | omega | (simp only [List.length_append, List.length_cons, List.length_nil, List.length_map, List.length_take, List.length_drop, List.length_replicate]; omega))) ?_)
    rintro _ hp11 ⟨M11, R11_0, rfl, gm11, od11_0, oo11_0⟩
    have oe11_0 : ∀ b, b < h.size → R11_0 b → R_r b := fun b hb hr => (rdr_od qr0 pw2 pwo pwc) b hb (od11_0 b (Nat.lt_of_lt_of_le hb st.kp.size) hr)
    have pw11_0 : ∀ b, R11_0 b → h.size ≤ b ∨ R_r b := fun b hb => if hlt : b < h.size then .inr (oe11_0 b hlt hb) else .inl (by omega)
    have sL4 := sL4.gr gm11.gr
    have dn := dn.gr gm11.gr
    have st := st.gm gm11 (od_pw (rdr_od qr0 pw2 pwo pwc))
    have o_r := oo11_0
    refine o_nil ?_
    obtain ⟨ra, rc, oa, oc, ca, cc, ph, lp_r, wr, wo, wc, dn, ⟨qr0', qr1, qr2, qr3⟩, ⟨dz1, dz2, dz3, dz4, dz5, dz6⟩, rm⟩ := o_r
    have mp_r := (rm _ qr0').1
    have pwA : ∀ b, R11_0 b → h.size ≤ b ∨ R_r b := pw11_0
    have pwr : ∀ b, Ob ra rc b → h.size ≤ b ∨ R_r b := fun b hb => pwA b (qr1 b hb)
    have pwo : ∀ b, Ob oa oc b → h.size ≤ b ∨ R_r b := fun b hb => pwA b (qr2 b hb)
    have pwc : ∀ b, Ob ca cc b → h.size ≤ b ∨ R_r b := fun b hb => pwA b (qr3 b hb)
    refine x_region ?_
    refine r1 rfl (p_mv rfl) ?_
    refine r1 rfl (p_mv rfl) ?_
    refine r1 rfl (p_len runUnderlying72 rfl) ?_
    refine r1 rfl (p_nc rfl) ?_
    refine r1 rfl (p_fld runUnderlying49 rfl sizeOf3 (by decide) rfl rfl) ?_
    refine o0 (s_sto sizeOf3 rfl rfl rfl lp_r rfl ?_)
    intro hu12 u12
    have wc := wc.upd u12 mp_r dz3
    have wr := wr.upd u12 mp_r dz1
    have wo := wo.upd u12 mp_r dz2
    have dn := dn.gr (.upd u12 mp_r)
    have lp_r := u12.bl
    have st := st.upd u12 (.inr qr0)
    replace lp_r : Bl hu12 p_r [_, _, _] _ := lp_r
    refine o_nil ?_
    refine fin0 ?_
    have o_r : (oRdr p_r).At (RdrR p_r ra rc oa oc ca cc) (rdrFeed r b) M11 hu12 := rdr_mk lp_r mp_r wr wo wc dn dz1 dz2 dz3 dz4 dz5 dz6
    exact ⟨M11, (RdrR p_r ra rc oa oc ca cc), rfl, st.out, (rdr_od qr0 pwr pwo pwc), o_r⟩
end Go.Proofs
