import Derived.Test.YteeienbhmkiloaaGreatDoorW7
set_option linter.unusedSimpArgs false
set_option linter.unusedVariables false
namespace Go.Proofs
open Go.Lx Tryz

def blankC : Cell := ⟨0, []⟩
def blankL (w : Nat) : Line := ⟨List.replicate w blankC, false⟩
theorem pl102 : ∀ w, ((#[{ name := "Cells", type := 99, offset := 0, embedded := false, tag := "", pkgPath := "", byteOffset := 0 }, { name := "Wrap", type := 4, offset := 1, embedded := false, tag := "", pkgPath := "", byteOffset := 24 }] : Array Field).mapM (fun f => do return (f.offset, ← sizeOf f.type)) : Sem (Array (Nat × Nat))).run prog w = .ok (([(0, 1), (1, 1)] : List (Nat × Nat))).toArray w := fun _ => by kernel_rfl
theorem c_32New (N : Nat → Prop) (h : Hp) (hN : ∀ b, N b → b < h.size) (w : Int) (hh : Int)  (hw : 0 ≤ w ∧ w ≤ 1000000) (hg : 0 ≤ hh ∧ hh ≤ 1000000) : C prog 32 [.int .i64 w, .int .i64 hh] h (fun v h' => ∃ (ar : Option Addr) (cr : Nat), v = .slice ar (List.replicate hh.toNat (blankL w.toNat)).length cr ∧ Sl rLine N h' ar cr (List.replicate hh.toNat (blankL w.toNat)) ∧ Ext h h') := by
  have st := St.init hN
  refine enter func32 rfl ntmps32 results32 rfl rfl ?_
  refine x_seq ?_
  refine x_region ?_
  refine r1 rfl (p_as rfl) ?_
  refine o_nil ?_
  refine x_seq ?_
  refine x_region ?_
  refine r1 rfl (p_as rfl) ?_
  refine o_nil ?_
  refine x_seq ?_
  refine x_seq ?_
  refine x_region ?_
  refine r1 rfl (p_as rfl) ?_
  refine o_nil ?_
  refine x_block ?_
  refine x_loope (σ := Nat × (Option Addr) × Nat × (Nat → Prop)) (fun st_ E0 => match st_ with | (i, aL5, cL5, M_) => (6, .int .i64 (i : Int)) :: (5, .slice aL5 (List.replicate i (blankL w.toNat)).length cL5) :: E0) [(0, _), (1, _)] (fun st_ h' => match st_ with | (i, aL5, cL5, M_) => St N h (fun _ => False) M_ h' ∧ Ow h.size 102 rLine M_ h' aL5 cL5 (List.replicate i (blankL w.toNat)) ∧ (i ≤ hh.toNat)) (fun st_ => match st_ with | (i, aL5, cL5, M_) => hh.toNat - i) (0, none, 0, N) ⟨⟨rfl, rfl, rfl, rfl, trivial⟩, rfl⟩ ?_ ?_
  · skip
    refine ⟨st, (Ow.nil (B := h.size) (T := 102) (r := rLine) (M := N) (h := h) (a := none)), ?_⟩
    · first | omega | assumption | (simp; done) | (simp; omega)
  rintro ⟨i, aL5, cL5, M_⟩ h' ⟨st, wL5, hi0⟩
  show X _ _ _ _ (_ :: _) _ _
  have nwL5 := wL5.len'
  refine x_seq ?_
  refine x_seq ?_
  refine x_region ?_
  refine r1 rfl (p_mv rfl) ?_
  refine r1 rfl (p_mv rfl) ?_
  refine r1 rfl (p_lss rfl rfl) ?_
  refine o_nil ?_
  refine x_cond rfl (fun hc => ?_) (fun hc => ?_)
  · skip
    try simp only [Bool.and_eq_true, Bool.or_eq_true, Bool.not_eq_true', decide_eq_true_eq, decide_eq_false_iff_not, Bool.or_eq_false_iff, Bool.and_eq_false_iff, Bool.not_eq_false'] at hc
    refine x_skip ?_
    refine x_seq ?_
    refine x_block ?_
    refine x_region ?_
    refine r1 rfl (p_mv rfl) ?_
    refine r1 rfl (p_mv rfl) ?_
    refine o1 rfl (s_mk runUnderlying99 sizeOf134 typeInfo134 zeroValue134 rfl rfl rfl rfl rfl rfl (by omega) (n' := (List.replicate ((w).toNat) (⟨0, []⟩ : Cell)).length) (c' := (w).toNat) (by simp) (by try simp) ?_)
    intro bb1 hb1 n1
    obtain ⟨M1, nm1⟩ := nm (M := M_) n1
    have w1 : Ow h.size 134 rCell M1 hb1 (some ⟨bb1, 0, none⟩) ((w).toNat) (List.replicate ((w).toNat) (⟨0, []⟩ : Cell)) := n1.owMk nm1 (n1.ge st.kp) ⟨_, _, rfl, (by decide), .nil⟩ (by omega) (by omega)
    have nop1_wL5 : ∀ b, Ob aL5 cL5 b → ¬ Ob (some ⟨bb1, 0, none⟩) ((w).toNat) b := fun b hb hh => by have := wL5.lt b hb; have := n1.at_; have := hh.2; simp [bk] at this; omega
    have wL5 := wL5.kp (nm1.gr n1) nm1.sub (n1.ext) fun _ _ hh => hh
    have st := st.new n1 nm1
    refine r1 rfl (p_bs runUnderlying102 zeroValue102 pl102 rfl) ?_
    show O _ _ _ _ _ ((_, .agg #[_, _]) :: _) _ _
    obtain ⟨M3, fz3, st3, s3⟩ := w1.fz st hN
    have wL5 := wL5.fzo fz3 nop1_wL5
    have st := st3
    refine o1 rfl (s_bs runUnderlying27 sizeOf102 zeroValue102 rfl rfl rfl rfl rfl ?_)
    intro bb2 hb2 n2
    have nmb2 : ¬ M3 bb2 := fun hh => by have := st.lt _ hh; have := n2.at_; omega
    have wL5 := wL5.ext n2.ext
    have s3 := s3.gr (.ext n2.ext)
    have st := st.ext n2.ext
    have s2 : Sl rLine M3 hb2 (some ⟨bb2, 0, none⟩) 1 ([(⟨List.replicate ((w).toNat) (⟨0, []⟩ : Cell), false⟩ : Line)] : List Line) := n2.sl nmb2 rfl (els_cons (by exact ⟨_, _, rfl, s3⟩) els_nil)
    refine o1 rfl (s_app runUnderlying27 runUnderlying27 sizeOf102 typeInfo102 zeroValue102 rfl rfl rfl rfl rfl rfl wL5 s2 (Nat.le_trans st.kp.size (Nat.le_refl _)) (by simp; omega) ?_)
    intro a5 c5 hp5 ap5 wf5
    obtain ⟨M5, am5⟩ := am ap5 wL5.mem
    have w5_ := wf5 M5 am5
    have st := st.app ap5 am5 (fun b hb => .inl (wL5.ge b hb))
    have w5 := w5_
    refine r1 rfl (p_as rfl) ?_
    refine o_nil ?_
    refine x_region ?_
    refine r1 rfl (p_mv rfl) ?_
    refine r1 rfl (p_add64 rfl rfl (by omega)) ?_
    refine r1 rfl (p_as rfl) ?_
    refine o_nil ?_
    have te6 : (List.replicate i (blankL w.toNat)) ++ ([(⟨List.replicate ((w).toNat) (⟨0, []⟩ : Cell), false⟩ : Line)]) = (List.replicate (i + 1) (blankL w.toNat)) := (by rw [List.replicate_succ']; rfl)
    rw [te6] at w5
    try rw [te6]
    refine ⟨(i + 1, a5, c5, M5), ⟨⟨rfl, rfl, rfl, rfl, trivial⟩, rfl⟩, ?_, ?_⟩
    · skip
      refine ⟨st, w5, ?_⟩
      · first | omega | assumption | (simp; done) | (simp; omega)
    · (try dsimp only); omega
  · skip
    try simp only [Bool.and_eq_true, Bool.or_eq_true, Bool.not_eq_true', decide_eq_true_eq, decide_eq_false_iff_not, Bool.or_eq_false_iff, Bool.and_eq_false_iff, Bool.not_eq_false'] at hc
    refine x_exit ?_
    refine x_seq ?_
    refine x_region ?_
    refine r1 rfl (p_mv rfl) ?_
    refine r1 rfl (p_as rfl) ?_
    refine o_nil ?_
    refine x_ret (fin1 rfl ?_)
    have te7 : List.replicate i (blankL w.toNat) = (List.replicate hh.toNat (blankL w.toNat)) := (by congr 1; omega)
    rw [te7] at wL5
    try rw [te7]
    exact ⟨_, _, rfl, (wL5.out st hN), st.x⟩
theorem pl31 : ∀ w, ((#[{ name := "L", type := 27, offset := 0, embedded := false, tag := "", pkgPath := "", byteOffset := 0 }, { name := "At", type := 29, offset := 1, embedded := false, tag := "", pkgPath := "", byteOffset := 24 }, { name := "Auto", type := 4, offset := 4, embedded := false, tag := "", pkgPath := "", byteOffset := 48 }] : Array Field).mapM (fun f => do return (f.offset, ← sizeOf f.type)) : Sem (Array (Nat × Nat))).run prog w = .ok (([(0, 1), (1, 3), (4, 1)] : List (Nat × Nat))).toArray w := fun _ => by kernel_rfl
theorem c_34New (N : Nat → Prop) (h : Hp) (hN : ∀ b, N b → b < h.size) (w : Int) (hh : Int)  (hw : 0 ≤ w ∧ w ≤ 1000000) (hg : 0 ≤ hh ∧ hh ≤ 1000000) : C prog 17 [.int .i64 w, .int .i64 hh] h (fun v h' => ∃ (ar_l : Option Addr) (cr_l : Nat), v = .agg #[.slice ar_l ((⟨List.replicate hh.toNat (blankL w.toNat), ⟨0, 0, false⟩, true⟩ : PenR).l).length cr_l, .int .i64 (((⟨List.replicate hh.toNat (blankL w.toNat), ⟨0, 0, false⟩, true⟩ : PenR).at_).row), .int .i64 (((⟨List.replicate hh.toNat (blankL w.toNat), ⟨0, 0, false⟩, true⟩ : PenR).at_).col), .bool (((⟨List.replicate hh.toNat (blankL w.toNat), ⟨0, 0, false⟩, true⟩ : PenR).at_).pend), .bool ((⟨List.replicate hh.toNat (blankL w.toNat), ⟨0, 0, false⟩, true⟩ : PenR).auto)] ∧ Sl rLine N h' ar_l cr_l ((⟨List.replicate hh.toNat (blankL w.toNat), ⟨0, 0, false⟩, true⟩ : PenR).l) ∧ B64 (((⟨List.replicate hh.toNat (blankL w.toNat), ⟨0, 0, false⟩, true⟩ : PenR).at_).row) ∧ B64 (((⟨List.replicate hh.toNat (blankL w.toNat), ⟨0, 0, false⟩, true⟩ : PenR).at_).col) ∧ Ext h h') := by
  have st := St.init hN
  refine enter func17 rfl ntmps17 results17 rfl rfl ?_
  refine x_seq ?_
  refine x_region ?_
  refine o1 rfl (s_al zeroValue31 rfl ?_)
  intro b4 hb1 n1
  obtain ⟨M1, nm1⟩ := nm (M := N) n1
  have gb4 : h.size ≤ b4 := n1.ge st.kp
  have st := st.new n1 nm1
  have lb4 := n1.bl
  have mb4 := nm1.mem
  refine o_nil ?_
  refine x_seq ?_
  refine x_region ?_
  refine r1 rfl (p_mv rfl) ?_
  refine r1 rfl (p_mv rfl) ?_
  refine o1 rfl (s_call call32 rfl (c_32New M1 hb1 st.lt w hh (by first | omega | (simp only [List.length_append, List.length_cons, List.length_nil, List.length_map, List.length_take, List.length_drop, List.length_replicate]; omega)) (by first | omega | (simp only [List.length_append, List.length_cons, List.length_nil, List.length_map, List.length_take, List.length_drop, List.length_replicate]; omega))) ?_)
  rintro _ hp2 ⟨a2, c2, rfl, s2, x2⟩
  have lb4 := lb4.lift (x2)
  have st := st.ext x2
  have ns2 := s2.ll
  refine r1 rfl (p_bs runUnderlying31 zeroValue31 pl31 rfl) ?_
  show O _ _ _ _ _ ((_, .agg #[_, _, _, _, _]) :: _) _ _
  refine o0 (s_sta rfl rfl sizeOf31 rfl lb4 rfl ?_)
  intro hu3 u3
  have s2 := s2.gr (.upd u3 mb4)
  have lb4 := u3.bl
  have st := st.upd u3 (.inl gb4)
  replace lb4 : Bl hu3 b4 [_, _, _, _, _] _ := lb4
  refine o_nil ?_
  refine x_ret (fin1 (ret_cell isAgg31 rfl (lb4.gets rfl) sizeOf31) ?_)
  exact ⟨_, _, rfl, (s2.out st), (by first | omega | assumption | (dsimp only; omega)), (by first | omega | assumption | (dsimp only; omega)), st.x⟩
def sideF (n : Int) : Int := max 1 (min n 1024)
def newR (w hh : Int) : FeedR := ⟨⟨List.replicate (sideF hh).toNat (blankL (sideF w).toNat), ⟨0, 0, false⟩, true⟩, [], [], 0⟩
theorem pl35 : ∀ w, ((#[{ name := "P", type := 31, offset := 0, embedded := false, tag := "", pkgPath := "", byteOffset := 0 }, { name := "Group", type := 32, offset := 5, embedded := false, tag := "", pkgPath := "", byteOffset := 56 }, { name := "Raw", type := 33, offset := 6, embedded := false, tag := "", pkgPath := "", byteOffset := 80 }, { name := "Parts", type := 3, offset := 7, embedded := false, tag := "", pkgPath := "", byteOffset := 104 }] : Array Field).mapM (fun f => do return (f.offset, ← sizeOf f.type)) : Sem (Array (Nat × Nat))).run prog w = .ok (([(0, 5), (5, 1), (6, 1), (7, 1)] : List (Nat × Nat))).toArray w := fun _ => by kernel_rfl
theorem c_40New (N : Nat → Prop) (h : Hp) (hN : ∀ b, N b → b < h.size) (w : Int) (hh : Int)   : C prog 7 [.int .i64 w, .int .i64 hh] h (fun v h' => ∃ (ar_p_l : Option Addr) (cr_p_l : Nat), ∃ (ar_group : Option Addr) (cr_group : Nat), ∃ (ar_raw : Option Addr) (cr_raw : Nat), v = .agg #[.slice ar_p_l (((newR w hh).p).l).length cr_p_l, .int .i64 ((((newR w hh).p).at_).row), .int .i64 ((((newR w hh).p).at_).col), .bool ((((newR w hh).p).at_).pend), .bool (((newR w hh).p).auto), .slice ar_group ((newR w hh).group).length cr_group, .slice ar_raw ((newR w hh).raw).length cr_raw, .int .i64 ((newR w hh).parts)] ∧ Sl rLine N h' ar_p_l cr_p_l (((newR w hh).p).l) ∧ B64 ((((newR w hh).p).at_).row) ∧ B64 ((((newR w hh).p).at_).col) ∧ Sl r32 N h' ar_group cr_group ((newR w hh).group) ∧ Sl r8 N h' ar_raw cr_raw ((newR w hh).raw) ∧ B64 ((newR w hh).parts) ∧ Ext h h') := by
  have st := St.init hN
  refine enter func7 rfl ntmps7 results7 rfl rfl ?_
  refine x_seq ?_
  refine x_region ?_
  refine o1 rfl (s_al zeroValue35 rfl ?_)
  intro b4 hb1 n1
  obtain ⟨M1, nm1⟩ := nm (M := N) n1
  have gb4 : h.size ≤ b4 := n1.ge st.kp
  have st := st.new n1 nm1
  have lb4 := n1.bl
  have mb4 := nm1.mem
  refine o_nil ?_
  refine x_seq ?_
  refine x_region ?_
  refine r1 rfl (p_mv rfl) ?_
  refine r1 rfl (p_min2 rfl rfl) ?_
  refine r1 rfl (p_max2 rfl rfl) ?_
  refine r1 rfl (p_mv rfl) ?_
  refine r1 rfl (p_min2 rfl rfl) ?_
  refine r1 rfl (p_max2 rfl rfl) ?_
  refine o1 rfl (s_call call17 rfl (c_34New M1 hb1 st.lt (max 1 (min w 1024)) (max 1 (min hh 1024)) (by first | omega | (simp only [List.length_append, List.length_cons, List.length_nil, List.length_map, List.length_take, List.length_drop, List.length_replicate]; omega)) (by first | omega | (simp only [List.length_append, List.length_cons, List.length_nil, List.length_map, List.length_take, List.length_drop, List.length_replicate]; omega))) ?_)
  rintro _ hp2 ⟨a2_0, c2_0, rfl, s2_0, p2_1_0, p2_1_1, x2⟩
  have lb4 := lb4.lift (x2)
  have st := st.ext x2
  have ns2_0 := s2_0.ll
  refine r1 rfl (p_bs runUnderlying35 zeroValue35 pl35 rfl) ?_
  show O _ _ _ _ _ ((_, .agg #[_, _, _, _, _, _, _, _]) :: _) _ _
  refine o0 (s_sta rfl rfl sizeOf35 rfl lb4 rfl ?_)
  intro hu3 u3
  have s2_0 := s2_0.gr (.upd u3 mb4)
  have lb4 := u3.bl
  have st := st.upd u3 (.inl gb4)
  replace lb4 : Bl hu3 b4 [_, _, _, _, _, _, _, _] _ := lb4
  refine o_nil ?_
  refine x_ret (fin1 (ret_cell isAgg35 rfl (lb4.gets rfl) sizeOf35) ?_)
  exact ⟨_, _, _, _, _, _, rfl, (s2_0.out st), p2_1_0, p2_1_1, (Sl.nil (a := none) (cap := 0)), (Sl.nil (a := none) (cap := 0)), (by first | omega | assumption | (dsimp only; omega)), st.x⟩
theorem c_Clone (N : Nat → Prop) (h : Hp) (hN : ∀ b, N b → b < h.size) (l : List Int) {a_l : Option Addr} {c_l : Nat} (s_l : Sl r32 N h a_l c_l l) (hl : l.length ≤ 2000000) : C prog 115 [.slice a_l l.length c_l] h (fun v h' => ∃ (ar : Option Addr) (cr : Nat), v = .slice ar l.length cr ∧ Oz 21 r32 N h h' ar cr l ∧ (∀ b, Ob ar cr b → h.size ≤ b) ∧ Ext h h') := by
  have st := St.init hN
  have ns_l := s_l.ll
  refine enter func115 rfl ntmps115 results115 rfl rfl ?_
  refine x_seq ?_
  refine x_region ?_
  refine r1 rfl (p_as rfl) ?_
  refine o_nil ?_
  refine x_seq ?_
  refine x_seq ?_
  refine x_region ?_
  refine r1 rfl (p_mv rfl) ?_
  refine r1 rfl (p_eqlssn runUnderlying32 rfl rfl) ?_
  refine o_nil ?_
  refine x_cond rfl (fun h0 => ?_) (fun h0 => ?_)
  · skip
    try simp only [Bool.and_eq_true, Bool.or_eq_true, Bool.not_eq_true', decide_eq_true_eq, decide_eq_false_iff_not, Bool.or_eq_false_iff, Bool.and_eq_false_iff, Bool.not_eq_false'] at h0
    have e : l = [] := by
      cases l with
      | nil => rfl
      | cons x r => have := s_l.is (by simp); rw [this] at h0; simp at h0
    refine x_seq ?_
    refine x_region ?_
    refine r1 rfl (p_as rfl) ?_
    refine o_nil ?_
    refine x_ret (fin1 rfl ?_)
    subst e
    exact ⟨_, _, rfl, ((Ow.nil (B := h.size) (T := 21) (r := r32) (M := N) (h := h) (a := none)).ret st), (fun _ hh => by have := hh.1; omega), st.x⟩
  · skip
    try simp only [Bool.and_eq_true, Bool.or_eq_true, Bool.not_eq_true', decide_eq_true_eq, decide_eq_false_iff_not, Bool.or_eq_false_iff, Bool.and_eq_false_iff, Bool.not_eq_false'] at h0
    refine x_skip ?_
    refine x_seq ?_
    refine x_region ?_
    refine o1 rfl (s_bs0 runUnderlying32 sizeOf21 ?_)
    intro bb1 hb1 n1
    have st := st.ext n1.ext
    have s1 : Ow h.size 21 r32 N hb1 (some ⟨bb1, 0, none⟩) 0 [] := .nil
    refine r1 rfl (p_mv rfl) ?_
    refine o1 rfl (s_app runUnderlying32 runUnderlying32 sizeOf21 typeInfo21 zeroValue21 rfl rfl rfl rfl rfl rfl s1 (s_l.gr st.gr) (Nat.le_trans st.kp.size (Nat.le_refl _)) (by first | omega | (simp only [List.length_append, List.length_cons, List.length_nil]; omega)) ?_)
    intro a3 c3 hp3 ap3 wf3
    obtain ⟨M3, am3⟩ := am ap3 s1.mem
    have w3_ := wf3 M3 am3
    have st := st.app ap3 am3 (fun b hb => .inl (s1.ge b hb))
    have w3 := w3_
    replace w3 : Ow h.size 21 r32 M3 hp3 a3 c3 l := w3
    refine r1 rfl (p_as rfl) ?_
    refine o_nil ?_
    refine x_ret (fin1 rfl ?_)
    exact ⟨_, _, rfl, (w3.ret st), w3.ge, st.x⟩
theorem pl134 : ∀ w, ((#[{ name := "Kind", type := 3, offset := 0, embedded := false, tag := "", pkgPath := "", byteOffset := 0 }, { name := "Text", type := 32, offset := 1, embedded := false, tag := "", pkgPath := "", byteOffset := 8 }] : Array Field).mapM (fun f => do return (f.offset, ← sizeOf f.type)) : Sem (Array (Nat × Nat))).run prog w = .ok (([(0, 1), (1, 1)] : List (Nat × Nat))).toArray w := fun _ => by kernel_rfl
theorem c_own (N : Nat → Prop) (h : Hp) (hN : ∀ b, N b → b < h.size) (c : Cell) {a_c_text : Option Addr} {c_c_text : Nat} (p_c_kind : B64 c.kind) (s_c_text : Sl r32 N h a_c_text c_c_text c.text) (hl : c.text.length ≤ 2000000) : C prog 80 [.agg #[.int .i64 c.kind, .slice a_c_text c.text.length c_c_text]] h (fun v h' => ∃ (ar_text : Option Addr) (cr_text : Nat), v = .agg #[.int .i64 c.kind, .slice ar_text c.text.length cr_text] ∧ B64 c.kind ∧ Sl r32 N h' ar_text cr_text c.text ∧ Ext h h') := by
  have st := St.init hN
  have ns_c_text := s_c_text.ll
  refine enter func80 rfl ntmps80 results80 rfl rfl ?_
  refine x_seq ?_
  refine x_region ?_
  refine o1 rfl (s_box rfl rfl ?_)
  intro b1 hb1 n1
  obtain ⟨M1, nm1⟩ := nm (M := N) n1
  have gb1 : h.size ≤ b1 := n1.ge st.kp
  have st := st.new n1 nm1
  have lb1 := n1.bl
  have mb1 := nm1.mem
  refine o1 rfl (s_al zeroValue134 rfl ?_)
  intro b2 hb2 n2
  obtain ⟨M2, nm2⟩ := nm (M := M1) n2
  have gb2 : h.size ≤ b2 := n2.ge st.kp
  have neb2_b1 : b2 ≠ b1 := n2.ne lb1
  have lb1 := lb1.lift (n2.ext)
  have mb1 := nm2.sub _ mb1
  have st := st.new n2 nm2
  have lb2 := n2.bl
  have mb2 := nm2.mem
  refine o_nil ?_
  refine x_seq ?_
  refine x_regdt 6 (fun hq => Ext hb2 hq) (by kernel_rfl) ⟨by kernel_rfl, by kernel_rfl, by kernel_rfl, by kernel_rfl⟩ ?_
  intro tl
  have xd := Ext.refl hb2
  refine e_take 0 tl rfl rfl (by kernel_rfl) (by kernel_rfl) rfl xd (fun hq xq => p_fld runUnderlying134 rfl sizeOf3 (by decide) rfl rfl) ?_
  refine e_take 1 tl rfl rfl (by kernel_rfl) (by kernel_rfl) rfl xd (fun hq xq => p_ld isAgg3 rfl ((lb1.lift xq).get rfl)) ?_
  refine e_take 2 tl rfl rfl (by kernel_rfl) (by kernel_rfl) rfl xd (fun hq xq => p_fld runUnderlying134 rfl sizeOf32 (by decide) rfl rfl) ?_
  refine e_take 3 tl rfl rfl (by kernel_rfl) (by kernel_rfl) rfl xd (fun hq xq => p_ld isAgg32 rfl ((lb1.lift xq).get rfl)) ?_
  refine e_one 4 (by kernel_rfl) rfl rfl rfl (s_call call115 rfl (c_Clone M2 hb2 st.lt c.text (s_c_text.gr st.gr) (by first | omega | (simp only [List.length_append, List.length_cons, List.length_nil, List.length_map, List.length_take, List.length_drop, List.length_replicate]; omega))) ?_)
  rintro _ hp4 ⟨a4, c4, rfl, w4, w4_ge, x4⟩
  obtain ⟨M4, am4, w4⟩ := Oz.own w4 st x4
  have now4_b1 : ¬ Ob a4 c4 b1 := fun hh => by have := w4_ge _ hh; have := lb1.lt; omega
  have now4_b2 : ¬ Ob a4 c4 b2 := fun hh => by have := w4_ge _ hh; have := lb2.lt; omega
  have lb1 := lb1.lift (x4)
  have mb1 := am4.sub _ mb1
  have lb2 := lb2.lift (x4)
  have mb2 := am4.sub _ mb2
  have st := st.own x4 am4 w4
  have xd := xd.trans (x4)
  have nw4 := w4.len'
  refine ⟨xd, ?_⟩
  refine e_one 5 (by kernel_rfl) rfl rfl rfl (sp (p_bs runUnderlying134 zeroValue134 pl134 rfl) ?_)
  refine ⟨xd, ?_⟩
  refine e_end (by kernel_rfl) ?_
  refine o0 (s_sta rfl rfl sizeOf134 rfl lb2 rfl ?_)
  intro hu5 u5
  have w4 := w4.upd u5 mb2 now4_b2
  have lb1 := u5.kp.bl (Ne.symm neb2_b1) lb1
  have lb2 := u5.bl
  have st := st.upd u5 (.inl gb2)
  replace lb2 : Bl hu5 b2 [_, _] _ := lb2
  refine o_nil ?_
  refine x_ret (fin1 (ret_cell isAgg134 rfl (lb2.gets rfl) sizeOf134) ?_)
  exact ⟨_, _, rfl, p_c_kind, (w4.out st hN), st.x⟩
theorem c_Blanks (N : Nat → Prop) (h : Hp) (hN : ∀ b, N b → b < h.size) (n : Int)   : C prog 72 [.int .i64 n] h (fun v h' => ∃ (ar : Option Addr) (cr : Nat), v = .slice ar (List.replicate (max 0 (min n 1024)).toNat blankC).length cr ∧ Oz 134 rCell N h h' ar cr (List.replicate (max 0 (min n 1024)).toNat blankC) ∧ (∀ b, Ob ar cr b → h.size ≤ b) ∧ Ext h h') := by
  have st := St.init hN
  refine enter func72 rfl ntmps72 results72 rfl rfl ?_
  refine x_seq ?_
  refine x_region ?_
  refine r1 rfl (p_as rfl) ?_
  refine o_nil ?_
  refine x_seq ?_
  refine x_region ?_
  refine r1 rfl (p_mv rfl) ?_
  refine r1 rfl (p_min2 rfl rfl) ?_
  refine r1 rfl (p_max2 rfl rfl) ?_
  refine o1 rfl (s_mk runUnderlying99 sizeOf134 typeInfo134 zeroValue134 rfl rfl rfl rfl rfl rfl (by omega) (n' := (List.replicate ((max 0 (min n 1024)).toNat) (⟨0, []⟩ : Cell)).length) (c' := (max 0 (min n 1024)).toNat) (by simp) (by try simp) ?_)
  intro bb1 hb1 n1
  obtain ⟨M1, nm1⟩ := nm (M := N) n1
  have w1 : Ow h.size 134 rCell M1 hb1 (some ⟨bb1, 0, none⟩) ((max 0 (min n 1024)).toNat) (List.replicate ((max 0 (min n 1024)).toNat) (⟨0, []⟩ : Cell)) := n1.owMk nm1 (n1.ge st.kp) ⟨_, _, rfl, (by decide), .nil⟩ (by omega) (by omega)
  have st := st.new n1 nm1
  refine r1 rfl (p_as rfl) ?_
  refine o_nil ?_
  refine x_ret (fin1 rfl ?_)
  exact ⟨_, _, rfl, (w1.ret st), w1.ge, st.x⟩
end Go.Proofs
