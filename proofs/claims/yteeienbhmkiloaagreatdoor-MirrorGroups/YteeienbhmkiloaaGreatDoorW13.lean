import Derived.Test.YteeienbhmkiloaaGreatDoorW12
set_option linter.unusedSimpArgs false
set_option linter.unusedVariables false
namespace Go.Proofs
open Go.Lx Tryz

def RowAt2 (p : Nat) (R : Nat → Prop) (l : Line) (M : Nat → Prop) (h : Hp) : Prop :=
  ∃ a c, Bl h p [.slice a l.cells.length c, .bool l.wrap] 132 ∧ Ow 0 134 rCell M h a c l.cells ∧ (R p ∧ ∀ b, Ob a c b → R b) ∧ ¬ Ob a c p ∧ ∀ b, R b → M b ∧ b < h.size
def oRow (p : Nat) : Oj Line where
  At := RowAt2 p
  stab := by
    rintro R M M' W x h h' ⟨a, c, l, w1, ⟨r0, r1⟩, n, m⟩ g s k hW
    exact ⟨a, c, k.bl (hW p r0) l, w1.kp g s k fun b hb => hW b (r1 b hb), ⟨r0, r1⟩, n, fun b hb => ⟨s b (m b hb).1, Nat.lt_of_lt_of_le (m b hb).2 k.size⟩⟩
  lt := by
    rintro R M x h ⟨a, c, l, w1, r, n, m⟩ b hb
    exact (m b hb).2
  mem := by
    rintro R M x h ⟨a, c, l, w1, r, n, m⟩ b hb
    exact (m b hb).1
  sh := by
    rintro R M M' x h ⟨a, c, l, w1, ⟨r0, r1⟩, n, m⟩ hs hm
    exact ⟨a, c, l, w1.shrink hs fun b hb => hm b (r1 b hb), ⟨r0, r1⟩, n, fun b hb => ⟨hm b hb, (m b hb).2⟩⟩
def RowR (p : Nat) (a : Option Addr) (c : Nat) (b : Nat) : Prop := b = p ∨ Ob a c b
theorem row_mk {p : Nat} {M : Nat → Prop} {h : Hp} {a : Option Addr} {c B : Nat} {x : Line} (l : Bl h p [.slice a x.cells.length c, .bool x.wrap] 132) (mp : M p) (w : Ow B 134 rCell M h a c x.cells) (n : ¬ Ob a c p) : (oRow p).At (RowR p a c) x M h :=
  ⟨a, c, l, w.mono (Nat.zero_le _), ⟨.inl rfl, fun _ h => .inr h⟩, n, fun b hb => by
    rcases hb with rfl | hb
    · exact ⟨mp, l.lt⟩
    · exact ⟨w.mem b hb, w.lt b hb⟩⟩
theorem row_ge {p n : Nat} {a : Option Addr} {c : Nat} (p0 : n ≤ p) (p1 : ∀ b, Ob a c b → n ≤ b) : ∀ b, RowR p a c b → n ≤ b := by
  rintro b (rfl | h)
  · exact p0
  · exact p1 b h
def newL (w : Int) : Line := ⟨List.replicate (max 0 (min (max 1 w) 1024)).toNat blankC, false⟩
theorem pl132 : ∀ w, ((#[{ name := "cells", type := 99, offset := 0, embedded := false, tag := "", pkgPath := "linotype/row", byteOffset := 0 }, { name := "wrap", type := 4, offset := 1, embedded := false, tag := "", pkgPath := "linotype/row", byteOffset := 24 }] : Array Field).mapM (fun f => do return (f.offset, ← sizeOf f.type)) : Sem (Array (Nat × Nat))).run prog w = .ok (([(0, 1), (1, 1)] : List (Nat × Nat))).toArray w := fun _ => by kernel_rfl
theorem c_rowNew (N : Nat → Prop) (h : Hp) (hN : ∀ b, N b → b < h.size) (w : Int)   : C prog 55 [.int .i64 w] h (fun v h' => ∃ (pr : Nat) (Rr : Nat → Prop), v = .pointer (some ⟨pr, 0, none⟩) ∧ (∀ b, Rr b → h.size ≤ b) ∧ (oRow pr).At Rr (newL w) (fun b => N b ∨ Rr b) h' ∧ Ext h h') := by
  have st := St.init hN
  refine enter func55 rfl ntmps55 results55 rfl rfl ?_
  refine x_seq ?_
  refine x_region ?_
  refine r1 rfl (p_as rfl) ?_
  refine o_nil ?_
  refine x_seq ?_
  refine x_region ?_
  refine r1 rfl (p_mv rfl) ?_
  refine r1 rfl (p_max2 rfl rfl) ?_
  refine o1 rfl (s_call call72 rfl (c_Blanks N h st.lt (max 1 w)) ?_)
  rintro _ hp1 ⟨a1, c1, rfl, w1, w1_ge, x1⟩
  obtain ⟨M1, am1, w1⟩ := Oz.own w1 st x1
  have st := st.own x1 am1 w1
  have nw1 := w1.len'
  refine r1 rfl (p_bs runUnderlying132 zeroValue132 pl132 rfl) ?_
  show O _ _ _ _ _ ((_, .agg #[_, _]) :: _) _ _
  refine o1 rfl (s_box rfl rfl ?_)
  intro b7 hb2 n2
  obtain ⟨M2, nm2⟩ := nm (M := M1) n2
  have gb7 : h.size ≤ b7 := n2.ge st.kp
  have nob7_w1 : ¬ Ob a1 c1 b7 := fun hh => by have := w1.lt _ hh; have := n2.at_; omega
  have w1 := w1.kp (nm2.gr n2) nm2.sub (n2.ext) fun _ _ hh => hh
  have st := st.new n2 nm2
  have lb7 := n2.bl
  have mb7 := nm2.mem
  refine r1 rfl (p_as rfl) ?_
  refine o_nil ?_
  refine x_ret (fin1 rfl ?_)
  have o_r : (oRow b7).At (RowR b7 a1 c1) (newL w) M2 hb2 := row_mk lb7 mb7 w1 nob7_w1
  have go0 : ∀ b, RowR b7 a1 c1 b → h.size ≤ b := row_ge gb7 w1.ge
  exact ⟨b7, (RowR b7 a1 c1), rfl, go0, (Oj.ret o_r st), st.x⟩
theorem c_rowWide (N : Nat → Prop) (h : Hp) (hN : ∀ b, N b → b < h.size) (r : Line) {p_r : Nat} {R_r : Nat → Prop} (o_r : (oRow p_r).At R_r r N h) : C prog 47 [.pointer (some ⟨p_r, 0, none⟩)] h (fun v h' => v = .int .i64 (r.cells.length : Int) ∧ Ext h h') := by
  have st := St.init hN
  refine enter func47 rfl ntmps47 results47 rfl rfl ?_
  obtain ⟨ra, rc, lp_r, wr, ⟨qr0, qr1⟩, dz1, rm⟩ := id o_r
  have mp_r := (rm _ qr0).1
  refine x_seq ?_
  refine x_region ?_
  refine r1 rfl (p_as rfl) ?_
  refine o_nil ?_
  refine x_seq ?_
  refine x_seq ?_
  refine x_region ?_
  refine r1 rfl (p_mv rfl) ?_
  refine r1 rfl (p_eqlp runUnderlying90 rfl rfl) ?_
  refine o_nil ?_
  refine x_cond_f rfl ?_
  refine x_skip ?_
  refine x_seq ?_
  refine x_region ?_
  refine r1 rfl (p_mv rfl) ?_
  refine r1 rfl (p_nc rfl) ?_
  refine r1 rfl (p_fld runUnderlying132 rfl sizeOf99 (by decide) rfl rfl) ?_
  refine r1 rfl (p_ld isAgg99 rfl (lp_r.get rfl)) ?_
  refine r1 rfl (p_len runUnderlying99 rfl) ?_
  refine r1 rfl (p_as rfl) ?_
  refine o_nil ?_
  refine x_ret (fin1 rfl ?_)
  exact ⟨rfl, st.x⟩
theorem c_rowWrap (N : Nat → Prop) (h : Hp) (hN : ∀ b, N b → b < h.size) (r : Line) {p_r : Nat} {R_r : Nat → Prop} (o_r : (oRow p_r).At R_r r N h) : C prog 49 [.pointer (some ⟨p_r, 0, none⟩)] h (fun v h' => v = .bool r.wrap ∧ Ext h h') := by
  have st := St.init hN
  refine enter func49 rfl ntmps49 results49 rfl rfl ?_
  obtain ⟨ra, rc, lp_r, wr, ⟨qr0, qr1⟩, dz1, rm⟩ := id o_r
  have mp_r := (rm _ qr0).1
  refine x_seq ?_
  refine x_region ?_
  refine r1 rfl (p_as rfl) ?_
  refine o_nil ?_
  refine x_seq ?_
  refine x_region ?_
  refine r1 rfl (p_mv rfl) ?_
  refine r1 rfl (p_neqp runUnderlying90 rfl rfl) ?_
  refine r1 rfl (p_mv rfl) ?_
  apply o_and 5 (dj := 5) (d := 10) rfl
  · intro hg1_3
    have hg1_3_ := hg1_3
    try simp only [Bool.and_eq_true, Bool.or_eq_true, Bool.not_eq_true', decide_eq_true_eq, decide_eq_false_iff_not, Bool.or_eq_false_iff, Bool.and_eq_false_iff] at hg1_3_
    refine r1h rfl rfl rfl hg1_3 (p_mv rfl) ?_
    refine r1h rfl rfl rfl hg1_3 (p_nc rfl) ?_
    refine r1h rfl rfl rfl hg1_3 (p_fld runUnderlying132 rfl sizeOf4 (by decide) rfl rfl) ?_
    refine r1h rfl rfl rfl hg1_3 (p_ld isAgg4 rfl (lp_r.get rfl)) ?_
    refine r1 rfl (p_pickt hg1_3 rfl rfl rfl) ?_
    exact o_nil ⟨rfl, rfl, by repeat (first | exact le_r _ | refine le_c rfl ?_)⟩
  · intro hg1_3
    refine o1n rfl rfl rfl hg1_3 ?_
    refine o1n rfl rfl rfl hg1_3 ?_
    refine o1n rfl rfl rfl hg1_3 ?_
    refine o1n rfl rfl rfl hg1_3 ?_
    refine r1 rfl (p_pickf hg1_3 rfl rfl rfl) ?_
    exact o_nil ⟨rfl, rfl, by repeat (first | exact le_r _ | refine le_c rfl ?_)⟩
  refine r1 rfl (p_as rfl) ?_
  refine o_nil ?_
  refine x_ret (fin1 rfl ?_)
  exact ⟨rfl, st.x⟩
theorem c_rowCells (N : Nat → Prop) (h : Hp) (hN : ∀ b, N b → b < h.size) (r : Line) {p_r : Nat} {R_r : Nat → Prop} (o_r : (oRow p_r).At R_r r N h) (ht : ∀ c ∈ r.cells, c.text.length ≤ 2000000) (hn : r.cells.length ≤ 100000) : C prog 48 [.pointer (some ⟨p_r, 0, none⟩)] h (fun v h' => ∃ (ar : Option Addr) (cr : Nat), v = .slice ar r.cells.length cr ∧ Oz 134 rCell N h h' ar cr r.cells ∧ (∀ b, Ob ar cr b → h.size ≤ b) ∧ Ext h h') := by
  have st := St.init hN
  refine enter func48 rfl ntmps48 results48 rfl rfl ?_
  obtain ⟨ra, rc, lp_r, wr, ⟨qr0, qr1⟩, dz1, rm⟩ := id o_r
  have mp_r := (rm _ qr0).1
  refine x_seq ?_
  refine x_region ?_
  refine r1 rfl (p_as rfl) ?_
  refine o_nil ?_
  refine x_seq ?_
  refine x_region ?_
  refine r1 rfl (p_as rfl) ?_
  refine o_nil ?_
  refine x_seq ?_
  refine x_seq ?_
  refine x_region ?_
  refine r1 rfl (p_mv rfl) ?_
  refine o1 rfl (s_call call47 rfl (c_rowWide N h st.lt r o_r) ?_)
  rintro _ hp1 ⟨rfl, x1⟩
  have wr := wr.ext x1
  have o_r := Oj.ext o_r x1
  have lp_r := lp_r.lift (x1)
  have st := st.ext x1
  refine r1 rfl (p_mv rfl) ?_
  refine o_nil ?_
  refine x_block ?_
  refine x_loope (σ := Nat × (Option Addr) × Nat × (Nat → Prop)) (fun st_ E0 => match st_ with | (i, aL3, cL3, M_) => (7, .int .i64 (i : Int)) :: (3, .slice aL3 (r.cells.take i).length cL3) :: E0) [(0, _), (6, _)] (fun st_ h' => match st_ with | (i, aL3, cL3, M_) => St N h (fun _ => False) M_ h' ∧ Ow h.size 134 rCell M_ h' aL3 cL3 (r.cells.take i) ∧ Ow 0 134 rCell M_ h' ra rc r.cells ∧ (oRow p_r).At R_r r M_ h' ∧ Bl h' p_r [.slice ra r.cells.length rc, .bool r.wrap] 132 ∧ M_ p_r ∧ (¬ Ob aL3 cL3 p_r) ∧ (¬ Ob ra rc p_r) ∧ (∀ b, Ob aL3 cL3 b → ¬ Ob ra rc b) ∧ (∀ b, Ob aL3 cL3 b → ¬ R_r b) ∧ (i ≤ r.cells.length)) (fun st_ => match st_ with | (i, aL3, cL3, M_) => r.cells.length - i) (0, none, 0, N) ⟨⟨rfl, rfl, rfl, rfl, trivial⟩, rfl⟩ ?_ ?_
  · skip
    refine ⟨st, (Ow.nil (B := h.size) (T := 134) (r := rCell) (M := N) (h := hp1) (a := none)), wr, o_r, lp_r, mp_r, (fun hh => by have := hh.1; omega), dz1, (fun _ hh => by have := hh.1; omega), (fun _ hh => by have := hh.1; omega), ?_⟩
    · omega
  rintro ⟨i, aL3, cL3, M_⟩ h' ⟨st, wL3, wr, o_r, lp_r, mp_r, nowL3_p_r, nowr_p_r, nopwL3_wr, nopwL3_o_r, hi0⟩
  show X _ _ _ _ (_ :: _) _ _
  have nwL3 := wL3.len'
  refine x_seq ?_
  refine x_region ?_
  refine r1 rfl (p_lss rfl rfl) ?_
  refine o_nil ?_
  refine x_seq ?_
  refine x_cond rfl (fun hc => ?_) (fun hc => ?_)
  · skip
    try simp only [Bool.and_eq_true, Bool.or_eq_true, Bool.not_eq_true', decide_eq_true_eq, decide_eq_false_iff_not, Bool.or_eq_false_iff, Bool.and_eq_false_iff, Bool.not_eq_false'] at hc
    have hlt : i < r.cells.length := by omega
    have e1 : r.cells.take (i + 1) = r.cells.take i ++ [gt r.cells (i : Int)] := by rw [gt_lt hlt]; exact List.take_succ_eq_append_getElem hlt
    refine x_skip ?_
    refine x_seq ?_
    refine x_block ?_
    refine x_seq ?_
    refine x_region ?_
    refine r1 rfl (p_mv rfl) ?_
    refine r1 rfl (p_as rfl) ?_
    refine o_nil ?_
    refine x_region ?_
    refine r1 rfl (p_mv rfl) ?_
    refine r1 rfl (p_mv rfl) ?_
    refine r1 rfl (p_nc rfl) ?_
    refine r1 rfl (p_fld runUnderlying132 rfl sizeOf99 (by decide) rfl rfl) ?_
    refine r1 rfl (p_ld isAgg99 rfl (lp_r.get rfl)) ?_
    refine r1 rfl (p_mv rfl) ?_
    refine r1 rfl (p_idx runUnderlying99 sizeOf134 rfl rfl (by omega) (wr.isi (i := (i : Int)) (by omega))) ?_
    obtain ⟨cs2, R2, C2⟩ := wr.at_ ((i : Int)) (by omega)
    obtain ⟨a2_1, c2_1, rfl, p2_0, s2_1⟩ := R2
    have ns2_1 := s2_1.ll
    refine r1 rfl (p_lda isAgg134 rfl C2 sizeOf134) ?_
    refine o1 rfl (s_call call80 rfl (c_own M_ h' st.lt (gt r.cells (i : Int)) p2_0 s2_1 (ht _ (gt_mem (by omega) (by omega)))) ?_)
    rintro _ hp3 ⟨a3_1, c3_1, rfl, p3_0, s3_1, x3⟩
    have wL3 := wL3.ext x3
    have wr := wr.ext x3
    have o_r := Oj.ext o_r x3
    have lp_r := lp_r.lift (x3)
    have st := st.ext x3
    have ns3_1 := s3_1.ll
    refine o1 rfl (s_bs runUnderlying99 sizeOf134 zeroValue134 rfl rfl rfl rfl rfl ?_)
    intro bb4 hb4 n4
    have nmb4 : ¬ M_ bb4 := fun hh => by have := st.lt _ hh; have := n4.at_; omega
    have wL3 := wL3.ext n4.ext
    have s3_1 := s3_1.gr (.ext n4.ext)
    have wr := wr.ext n4.ext
    have o_r := Oj.ext o_r n4.ext
    have lp_r := lp_r.lift (n4.ext)
    have st := st.ext n4.ext
    have s4 : Sl rCell M_ hb4 (some ⟨bb4, 0, none⟩) 1 ([(gt r.cells (i : Int))] : List Cell) := n4.sl nmb4 rfl (els_cons (by exact ⟨_, _, rfl, p3_0, s3_1⟩) els_nil)
    refine o1 rfl (s_app runUnderlying99 runUnderlying99 sizeOf134 typeInfo134 zeroValue134 rfl rfl rfl rfl rfl rfl wL3 s4 (Nat.le_trans st.kp.size (Nat.le_refl _)) (by simp only [List.length_append, List.length_take, List.length_cons, List.length_nil]; omega) ?_)
    intro a6 c6 hp6 ap6 wf6
    obtain ⟨M6, am6⟩ := am ap6 wL3.mem
    have now6_p_r : ¬ Ob a6 c6 p_r := fun hh => nowL3_p_r (ap6.old _ lp_r.lt hh)
    have nop6_wr : ∀ b, Ob ra rc b → ¬ Ob a6 c6 b := fun b hb hh => (fun b hb hh => nopwL3_wr b hh hb) b hb (ap6.old _ (wr.lt b hb) hh)
    have nop6_o_r : ∀ b, R_r b → ¬ Ob a6 c6 b := fun b hb hh => (fun b hb hh => nopwL3_o_r b hh hb) b hb (ap6.old _ (Oj.lt _ o_r b hb) hh)
    have w6_ := wf6 M6 am6
    have wr := wr.kp (am6.gr ap6 wL3.mem) am6.sub ap6.kp (fun b hb hh => nopwL3_wr b hh hb)
    have o_r := Oj.stab _ o_r (am6.gr ap6 wL3.mem) am6.sub ap6.kp (fun b hb hh => nopwL3_o_r b hh hb)
    have lp_r := ap6.kp.bl nowL3_p_r lp_r
    have mp_r := am6.sub _ mp_r
    have st := st.app ap6 am6 (fun b hb => .inl (wL3.ge b hb))
    have w6 := w6_
    refine r1 rfl (p_as rfl) ?_
    refine o_nil ?_
    refine x_region ?_
    refine r1 rfl (p_add64 rfl rfl (by omega)) ?_
    refine r1 rfl (p_mv rfl) ?_
    refine o_nil ?_
    have te7 : (r.cells.take i) ++ [(gt r.cells (i : Int))] = r.cells.take (i + 1) := e1.symm
    rw [te7] at w6
    try rw [te7]
    refine ⟨(i + 1, a6, c6, M6), ⟨⟨(congrArg (fun z => some (Value.int .i64 z)) (by omega)), rfl, rfl, rfl, trivial⟩, rfl⟩, ?_, ?_⟩
    · skip
      refine ⟨st, w6, wr, o_r, lp_r, mp_r, now6_p_r, nowr_p_r, (fun b hb hh => nop6_wr b hh hb), (fun b hb hh => nop6_o_r b hh hb), ?_⟩
      · omega
    · (try dsimp only); omega
  · skip
    try simp only [Bool.and_eq_true, Bool.or_eq_true, Bool.not_eq_true', decide_eq_true_eq, decide_eq_false_iff_not, Bool.or_eq_false_iff, Bool.and_eq_false_iff, Bool.not_eq_false'] at hc
    have te8 : r.cells.take i = r.cells := (List.take_of_length_le (by omega))
    rw [te8] at wL3
    try rw [te8]
    refine x_exit ?_
    refine x_seq ?_
    refine x_region ?_
    refine r1 rfl (p_mv rfl) ?_
    refine r1 rfl (p_as rfl) ?_
    refine o_nil ?_
    refine x_ret (fin1 rfl ?_)
    exact ⟨_, _, rfl, (wL3.ret st), wL3.ge, st.x⟩
end Go.Proofs
