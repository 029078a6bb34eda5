import Derived.Test.YteeienbhmkiloaaGreatDoorP1
set_option linter.unusedSimpArgs false
set_option linter.unusedVariables false
namespace Go.Proofs
open Go.Lx Tryz

structure GotT where
  r : Int
  at_ : Int
  len : Int
  known : Int
  bad : Bool
  deriving DecidableEq, Inhabited
def rGotT : Rp GotT where
  k := 5
  R := fun M h x cs => cs = [.int .i32 x.r, .int .i64 x.at_, .int .i64 x.len, .int .i64 x.known, .bool x.bad] ∧ B32 x.r ∧ B64 x.at_ ∧ B64 x.len ∧ B64 x.known
  len := by rintro M h x cs ⟨rfl, p_0, p_1, p_2, p_3⟩; rfl
  one := by
    rintro M h x cs ⟨rfl, p_0, p_1, p_2, p_3⟩ v hv
    simp only [List.mem_cons, List.not_mem_nil, or_false] at hv
    rcases hv with rfl | rfl | rfl | rfl | rfl <;> rfl
  gr := by rintro M h M' h' x cs ⟨rfl, p_0, p_1, p_2, p_3⟩ g; exact ⟨rfl, p_0, p_1, p_2, p_3⟩
/-- The part in front of some bytes, that begin at a place. -/
def partF (s : List Int) (at_ : Int) : GotT :=
  if reachF s = 0 then ⟨65533, at_, 1, at_ + 1, true⟩ else if (reachF s : Int) < leadF (gt s 0) then ⟨65533, at_, reachF s, at_ + min ((reachF s : Int) + 1) s.length, true⟩
  else ⟨wholeF (s.take (reachF s)), at_, reachF s, at_ + reachF s, false⟩
def stepN (s : List Int) : Nat := max (reachF s) 1
def partsW (s : List Int) (at_ : Int) : List GotT := if h : s = [] then [] else partF s at_ :: partsW (s.drop (stepN s)) (at_ + stepN s)
  termination_by s.length
  decreasing_by
  have := List.length_pos_iff.2 h
  simp only [List.length_drop, stepN]
  omega
theorem part_len (s : List Int) (at_ : Int) : (partF s at_).len = stepN s := by
  unfold partF stepN
  split
  · rename_i h; rw [h]; rfl
  · split <;> simp only <;> omega
theorem whole_bd {b : List Int} (hb : ∀ x ∈ b, BU8 x) (h1 : 1 ≤ b.length ∧ b.length ≤ 4) : B32 (wholeF b) := by
  have hmk : 0 ≤ gt marks b.length ∧ gt marks b.length ≤ 255 := gtB (l := marks) (B := fun x => 0 ≤ x ∧ x ≤ 255) (by decide) (by decide) _
  have hv2 : -256 ≤ gt b 0 - gt marks b.length ∧ gt b 0 - gt marks b.length ≤ 256 := by have := gtB hb (B := BU8) (by decide) 0; omega
  have hla := loA_bd hb hv2 (b.length - 1) (by omega)
  unfold wholeF
  have : b.length - 1 ≤ 3 := by omega
  generalize gt b 0 - gt marks b.length = v at *
  match b.length - 1, this, hla with
  | 0, _, hla => omega
  | 1, _, hla => omega
  | 2, _, hla => omega
  | 3, _, hla => omega
theorem part_bd {s : List Int} {at_ : Int} (hb : ∀ x ∈ s, BU8 x) (hs : s ≠ []) (h0 : 0 ≤ at_ ∧ at_ + s.length ≤ 9000000000000000000) : B32 (partF s at_).r ∧ B64 (partF s at_).at_ ∧ B64 (partF s at_).len ∧ B64 (partF s at_).known := by
  have hl := List.length_pos_iff.2 hs
  have hr := reach_le s hs
  have hc := lead_cases (gt s 0)
  unfold partF
  split
  · simp only [B32, B64]; omega
  · split
    · simp only [B32, B64]; omega
    · have hw : B32 (wholeF (s.take (reachF s))) := whole_bd (fun x hx => hb x (List.mem_of_mem_take hx)) (by rw [List.length_take]; omega)
      refine ⟨hw, ?_⟩
      simp only [B64]; omega
theorem pl56 : ∀ w, ((#[{ name := "R", type := 21, offset := 0, embedded := false, tag := "", pkgPath := "", byteOffset := 0 }, { name := "At", type := 3, offset := 1, embedded := false, tag := "", pkgPath := "", byteOffset := 8 }, { name := "Len", type := 3, offset := 2, embedded := false, tag := "", pkgPath := "", byteOffset := 16 }, { name := "Known", type := 3, offset := 3, embedded := false, tag := "", pkgPath := "", byteOffset := 24 }, { name := "Bad", type := 4, offset := 4, embedded := false, tag := "", pkgPath := "", byteOffset := 32 }] : Array Field).mapM (fun f => do return (f.offset, ← sizeOf f.type)) : Sem (Array (Nat × Nat))).run prog w = .ok (([(0, 1), (1, 1), (2, 1), (3, 1), (4, 1)] : List (Nat × Nat))).toArray w := fun _ => by kernel_rfl
theorem c_04All (N : Nat → Prop) (h : Hp) (hN : ∀ b, N b → b < h.size) (b : List Int) {a_b : Option Addr} {c_b : Nat} (s_b : Sl r8 N h a_b c_b b) (hl : b.length ≤ 100000) : C prog 18 [.slice a_b b.length c_b] h (fun v h' => ∃ (ar : Option Addr) (cr : Nat), v = .slice ar (partsW b 0).length cr ∧ Sl rGotT N h' ar cr (partsW b 0) ∧ Ext h h') := by
  have st := St.init hN
  have ns_b := s_b.ll
  have hbd := s_b.bnd
  refine enter func18 rfl ntmps18 results18 rfl rfl ?_
  refine x_seq ?_
  refine x_region ?_
  refine r1 rfl (p_as rfl) ?_
  refine o_nil ?_
  refine x_seq ?_
  refine x_region ?_
  refine r1 rfl (p_as rfl) ?_
  refine o_nil ?_
  refine x_seq ?_
  refine x_region ?_
  refine r1 rfl (p_as rfl) ?_
  refine o_nil ?_
  refine x_seq ?_
  refine x_block ?_
  refine x_loope (σ := Nat × (List GotT) × (Option Addr) × Nat × (Nat → Prop)) (fun st_ E0 => match st_ with | (at_, out, aL3, cL3, M_) => (4, .int .i64 (at_ : Int)) :: (3, .slice aL3 out.length cL3) :: E0) [(0, _)] (fun st_ h' => match st_ with | (at_, out, aL3, cL3, M_) => St N h (fun _ => False) M_ h' ∧ Ow h.size 56 rGotT M_ h' aL3 cL3 out ∧ (at_ ≤ b.length) ∧ (out ++ partsW (b.drop at_) at_ = partsW b 0) ∧ (out.length ≤ at_)) (fun st_ => match st_ with | (at_, out, aL3, cL3, M_) => b.length - at_) (0, [], none, 0, N) ⟨⟨rfl, rfl, rfl, trivial⟩, rfl⟩ ?_ ?_
  · skip
    refine ⟨st, (Ow.nil (B := h.size) (T := 56) (r := rGotT) (M := N) (h := h) (a := none)), ?_, ?_, ?_⟩
    · omega
    · simp
    · simp
  rintro ⟨at_, out, aL3, cL3, M_⟩ h' ⟨st, wL3, hi0, hi1, hi2⟩
  show X _ _ _ _ (_ :: _) _ _
  have nwL3 := wL3.len'
  refine x_seq ?_
  refine x_seq ?_
  refine x_region ?_
  refine r1 rfl (p_mv rfl) ?_
  refine r1 rfl (p_mv rfl) ?_
  refine r1 rfl (p_len runUnderlying33 rfl) ?_
  refine r1 rfl (p_lss rfl rfl) ?_
  refine o_nil ?_
  refine x_cond rfl (fun hc => ?_) (fun hc => ?_)
  · skip
    try simp only [Bool.and_eq_true, Bool.or_eq_true, Bool.not_eq_true', decide_eq_true_eq, decide_eq_false_iff_not, Bool.or_eq_false_iff, Bool.and_eq_false_iff, Bool.not_eq_false'] at hc
    have hne : b.drop at_ ≠ [] := by intro e; have := congrArg List.length e; rw [List.length_drop] at this; simp at this; omega
    have hbs : ∀ x ∈ b.drop at_, BU8 x := fun x hx => hbd x (List.mem_of_mem_drop hx)
    have hrl := reach_le _ hne
    have hlc := lead_cases (gt (b.drop at_) 0)
    have hdl : (b.drop at_).length = b.length - at_ := List.length_drop
    have hsub (j : Nat) : (b.take (at_ + j)).drop at_ = (b.drop at_).take j := by rw [List.drop_take]; congr 1; omega
    refine x_skip ?_
    refine x_block ?_
    refine x_seq ?_
    refine x_region ?_
    refine r1 rfl (p_as rfl) ?_
    refine o_nil ?_
    refine x_cute (σ := Nat × (Nat → Prop)) (fun st_ E0 => match st_ with | (k, M_) => (5, .int .i64 (k : Int)) :: E0) [(0, .slice a_b b.length c_b), (3, .slice aL3 out.length cL3), (4, .int .i64 (at_ : Int))] (fun st_ h' => match st_ with | (k, M_) => St N h (fun _ => False) M_ h' ∧ Ow h.size 56 rGotT M_ h' aL3 cL3 out ∧ (k = reachF (b.drop at_))) ?_ ?_
    · skip
      refine x_block ?_
      refine x_loope (σ := Nat × (Nat → Prop)) (fun st_ E0 => match st_ with | (k, M_) => (5, .int .i64 (k : Int)) :: E0) [(0, _), (3, _), (4, _)] (fun st_ h' => match st_ with | (k, M_) => St N h (fun _ => False) M_ h' ∧ Ow h.size 56 rGotT M_ h' aL3 cL3 out ∧ (k ≤ reachF (b.drop at_)) ∧ ((k : Int) < leadF (gt (b.drop at_) 0) ∨ k = 0)) (fun st_ => match st_ with | (k, M_) => reachF (b.drop at_) + 1 - k) (0, M_) ⟨⟨rfl, rfl, rfl, rfl, trivial⟩, rfl⟩ ?_ ?_
      · skip
        refine ⟨st, wL3, ?_, ?_⟩
        · omega
        · right; rfl
      rintro ⟨k, M_⟩ h' ⟨st, wL3, hi0, hi1⟩
      show X _ _ _ _ (_ :: _) _ _
      refine x_seq ?_
      refine x_seq ?_
      refine x_region ?_
      refine r1 rfl (p_mv rfl) ?_
      refine r1 rfl (p_mv rfl) ?_
      refine r1 rfl (p_add64 rfl rfl (by omega)) ?_
      refine r1 rfl (p_mv rfl) ?_
      refine r1 rfl (p_len runUnderlying33 rfl) ?_
      refine r1 rfl (p_lss rfl rfl) ?_
      refine r1 rfl (p_mv rfl) ?_
      apply o_andx 10 (dj := 19) (d := 29) rfl
      · intro hg5_7
        have hg5_7_ := hg5_7
        try simp only [Bool.and_eq_true, Bool.or_eq_true, Bool.not_eq_true', decide_eq_true_eq, decide_eq_false_iff_not, Bool.or_eq_false_iff, Bool.and_eq_false_iff] at hg5_7_
        have xghg5_7 := Ext.refl h'
        refine r1h rfl rfl rfl hg5_7 (p_mv rfl) ?_
        refine r1h rfl rfl rfl hg5_7 (p_mv rfl) ?_
        refine r1h rfl rfl rfl hg5_7 (p_mv rfl) ?_
        refine r1h rfl rfl rfl hg5_7 (p_mv rfl) ?_
        refine r1h rfl rfl rfl hg5_7 (p_add64 rfl rfl (by omega)) ?_
        refine r1h rfl rfl rfl hg5_7 (p_add64 rfl rfl (by omega)) ?_
        have sc1 := (s_b.gr st.gr).cp
        have s1 := (s_b.gr st.gr).part ((at_ : Int)).toNat ((at_ : Int) + (k : Int) + 1).toNat c_b (by omega) (by omega) (by omega) (by omega)
        refine r1h rfl rfl rfl hg5_7 (p_slft runUnderlying33 sizeOf5 rfl rfl rfl (n := ((b.take ((at_ : Int) + (k : Int) + 1).toNat).drop ((at_ : Int)).toNat).length) (by omega) (by omega) (by rw [List.length_drop, List.length_take]; omega)) ?_
        refine o1h rfl rfl rfl hg5_7 (s_call call33 rfl (c_03Begins M_ h' st.lt ((b.take ((at_ : Int) + (k : Int) + 1).toNat).drop ((at_ : Int)).toNat) s1) ?_)
        rintro _ hp2 ⟨rfl, x2⟩
        have wL3 := wL3.ext x2
        have st := st.ext x2
        have xghg5_7 := xghg5_7.trans (x2)
        refine r1h rfl rfl rfl hg5_7 (p_gtr rfl rfl) ?_
        refine r1 rfl (p_pickt hg5_7 rfl rfl rfl) ?_
        exact o_nil ⟨rfl, xghg5_7, by repeat (first | exact le_r _ | refine le_c rfl ?_)⟩
      · intro hg5_7
        refine o1n rfl rfl rfl hg5_7 ?_
        refine o1n rfl rfl rfl hg5_7 ?_
        refine o1n rfl rfl rfl hg5_7 ?_
        refine o1n rfl rfl rfl hg5_7 ?_
        refine o1n rfl rfl rfl hg5_7 ?_
        refine o1n rfl rfl rfl hg5_7 ?_
        refine o1n rfl rfl rfl hg5_7 ?_
        refine o1n rfl rfl rfl hg5_7 ?_
        refine o1n rfl rfl rfl hg5_7 ?_
        refine r1 rfl (p_pickf hg5_7 rfl rfl rfl) ?_
        exact o_nil ⟨rfl, Ext.refl _, by repeat (first | exact le_r _ | refine le_c rfl ?_)⟩
      intro hx3 xx3
      have wL3 := wL3.ext xx3
      have st := st.ext xx3
      refine o_nil ?_
      have e1 (c : Nat) : (b.take ((at_ : Int) + (k : Int) + (c : Int)).toNat).drop (at_ : Int).toNat = (b.drop at_).take (k + c) := by
        rw [show ((at_ : Int) + (k : Int) + (c : Int)).toNat = at_ + (k + c) by omega, show ((at_ : Int)).toNat = at_ by omega, hsub]
      refine x_cond rfl (fun hd => ?_) (fun hd => ?_)
      · skip
        try simp only [Bool.and_eq_true, Bool.or_eq_true, Bool.not_eq_true', decide_eq_true_eq, decide_eq_false_iff_not, Bool.or_eq_false_iff, Bool.and_eq_false_iff, Bool.not_eq_false'] at hd
        have hkl : k + 1 ≤ (b.drop at_).length := by omega
        have hkr : k + 1 ≤ reachF (b.drop at_) := by
          have h2 := hd.2
          rw [show (1 : Int) = ((1 : Nat) : Int) from rfl, e1 1, begins_take hbs (by omega) hkl] at h2
          split at h2
          · assumption
          · omega
        have e2 : ((b.take ((at_ : Int) + ((k : Int) + 1)).toNat).drop (at_ : Int).toNat) = (b.drop at_).take (k + 1) := by
          have := e1 1
          rw [← this]; congr 3 <;> omega
        refine x_skip ?_
        refine x_block ?_
        refine x_seq ?_
        refine x_region ?_
        refine r1 rfl (p_mv rfl) ?_
        refine r1 rfl (p_add64 rfl rfl (by omega)) ?_
        refine r1 rfl (p_as rfl) ?_
        refine o_nil ?_
        refine x_seq ?_
        refine x_region ?_
        refine r1 rfl (p_mv rfl) ?_
        refine r1 rfl (p_mv rfl) ?_
        refine r1 rfl (p_mv rfl) ?_
        refine r1 rfl (p_mv rfl) ?_
        refine r1 rfl (p_add64 rfl rfl (by omega)) ?_
        have sc4 := (s_b.gr st.gr).cp
        have s4 := (s_b.gr st.gr).part ((at_ : Int)).toNat ((at_ : Int) + ((k : Int) + 1)).toNat c_b (by omega) (by omega) (by omega) (by omega)
        refine r1 rfl (p_slft runUnderlying33 sizeOf5 rfl rfl rfl (n := ((b.take ((at_ : Int) + ((k : Int) + 1)).toNat).drop ((at_ : Int)).toNat).length) (by omega) (by omega) (by rw [List.length_drop, List.length_take]; omega)) ?_
        refine o1 rfl (s_call call33 rfl (c_03Begins M_ hx3 st.lt ((b.take ((at_ : Int) + ((k : Int) + 1)).toNat).drop ((at_ : Int)).toNat) s4) ?_)
        rintro _ hp5 ⟨rfl, x5⟩
        have wL3 := wL3.ext x5
        have st := st.ext x5
        refine r1 rfl (p_mv rfl) ?_
        refine r1 rfl (p_eql rfl rfl) ?_
        refine o_nil ?_
        refine x_cond rfl (fun he => ?_) (fun he => ?_)
        · skip
          try simp only [Bool.and_eq_true, Bool.or_eq_true, Bool.not_eq_true', decide_eq_true_eq, decide_eq_false_iff_not, Bool.or_eq_false_iff, Bool.and_eq_false_iff, Bool.not_eq_false'] at he
          rw [e2, begins_take hbs (by omega) hkl, if_pos hkr] at he
          refine x_exit ?_
          refine ⟨(k + 1, M_), ⟨⟨rfl, rfl, rfl, rfl, trivial⟩, rfl⟩, ?_⟩
          · skip
            refine ⟨st, wL3, ?_⟩
            · omega
        · skip
          try simp only [Bool.and_eq_true, Bool.or_eq_true, Bool.not_eq_true', decide_eq_true_eq, decide_eq_false_iff_not, Bool.or_eq_false_iff, Bool.and_eq_false_iff, Bool.not_eq_false'] at he
          rw [e2, begins_take hbs (by omega) hkl, if_pos hkr] at he
          refine x_skip ?_
          refine ⟨(k + 1, M_), ⟨⟨rfl, rfl, rfl, rfl, trivial⟩, rfl⟩, ?_, ?_⟩
          · skip
            refine ⟨st, wL3, ?_, ?_⟩
            · omega
            · left; omega
          · (try dsimp only); omega
      · skip
        try simp only [Bool.and_eq_true, Bool.or_eq_true, Bool.not_eq_true', decide_eq_true_eq, decide_eq_false_iff_not, Bool.or_eq_false_iff, Bool.and_eq_false_iff, Bool.not_eq_false'] at hd
        have hk2 : k = reachF (b.drop at_) := by
          rcases hd with hd | hd
          · omega
          · by_cases hkl : k + 1 ≤ (b.drop at_).length
            · rw [show (1 : Int) = ((1 : Nat) : Int) from rfl, e1 1, begins_take hbs (by omega) hkl] at hd
              split at hd
              · omega
              · omega
            · omega
        refine x_exit ?_
        refine ⟨(k, M_), ⟨⟨rfl, rfl, rfl, rfl, trivial⟩, rfl⟩, ?_⟩
        · skip
          refine ⟨st, wL3, ?_⟩
          · exact hk2
    · skip
      rintro ⟨k, M_⟩ h' ⟨st, wL3, hi0⟩
      show X _ _ _ _ (_ :: _) _ _
      refine x_seq ?_
      refine x_region ?_
      refine r1 rfl (p_mv rfl) ?_
      refine r1 rfl (p_mv rfl) ?_
      refine r1 rfl (p_max2 rfl rfl) ?_
      refine r1 rfl (p_mv rfl) ?_
      refine r1 rfl (p_add64 rfl rfl (by omega)) ?_
      refine r1 rfl (p_bs runUnderlying56 zeroValue56 pl56 rfl) ?_
      show O _ _ _ _ _ ((_, .agg #[_, _, _, _, _]) :: _) _ _
      refine o1 rfl (s_al zeroValue56 rfl ?_)
      intro b6 hb6 n6
      obtain ⟨M6, nm6⟩ := nm (M := M_) n6
      have gb6 : h.size ≤ b6 := n6.ge st.kp
      have nob6_wL3 : ¬ Ob aL3 cL3 b6 := fun hh => by have := wL3.lt _ hh; have := n6.at_; omega
      have wL3 := wL3.kp (nm6.gr n6) nm6.sub (n6.ext) fun _ _ hh => hh
      have st := st.new n6 nm6
      have lb6 := n6.bl
      have mb6 := nm6.mem
      refine o0 (s_sta rfl rfl sizeOf56 rfl lb6 rfl ?_)
      intro hu7 u7
      have wL3 := wL3.upd u7 mb6 nob6_wL3
      have lb6 := u7.bl
      have st := st.upd u7 (.inl gb6)
      replace lb6 : Bl hu7 b6 [_, _, _, _, _] _ := lb6
      refine o_nil ?_
      refine x_cute (σ := (Nat → Prop)) (fun st_ E0 => match st_ with | M_ => E0) [(0, .slice a_b b.length c_b), (3, .slice aL3 out.length cL3), (4, .int .i64 (at_ : Int)), (6, .pointer (some ⟨b6, 0, none⟩))] (fun st_ h' => match st_ with | M_ => St N h (fun _ => False) M_ h' ∧ Ow h.size 56 rGotT M_ h' aL3 cL3 out ∧ Bl h' b6 [.int .i32 ((partF (b.drop at_) at_).r), .int .i64 ((partF (b.drop at_) at_).at_), .int .i64 ((partF (b.drop at_) at_).len), .int .i64 ((partF (b.drop at_) at_).known), .bool ((partF (b.drop at_) at_).bad)] 56 ∧ M_ b6 ∧ (¬ Ob aL3 cL3 b6)) ?_ ?_
      · skip
        refine x_seq ?_
        refine x_region ?_
        refine r1 rfl (p_mv rfl) ?_
        refine r1 rfl (p_gtr rfl rfl) ?_
        refine o_nil ?_
        have e3 : (b.take ((at_ : Int) + (k : Int)).toNat).drop (at_ : Int).toNat = (b.drop at_).take k := by
          rw [show ((at_ : Int) + (k : Int)).toNat = at_ + k by omega, show ((at_ : Int)).toNat = at_ by omega, hsub]
        refine x_cond rfl (fun hk => ?_) (fun hk => ?_)
        · skip
          try simp only [Bool.and_eq_true, Bool.or_eq_true, Bool.not_eq_true', decide_eq_true_eq, decide_eq_false_iff_not, Bool.or_eq_false_iff, Bool.and_eq_false_iff, Bool.not_eq_false'] at hk
          refine x_seq ?_
          refine x_region ?_
          refine r1 rfl (p_mv rfl) ?_
          refine r1 rfl (p_mv rfl) ?_
          refine r1 rfl (p_mv rfl) ?_
          refine r1 rfl (p_mv rfl) ?_
          refine r1 rfl (p_add64 rfl rfl (by omega)) ?_
          have sc8 := (s_b.gr st.gr).cp
          have s8 := (s_b.gr st.gr).part ((at_ : Int)).toNat ((at_ : Int) + (k : Int)).toNat c_b (by omega) (by omega) (by omega) (by omega)
          refine r1 rfl (p_slft runUnderlying33 sizeOf5 rfl rfl rfl (n := ((b.take ((at_ : Int) + (k : Int)).toNat).drop ((at_ : Int)).toNat).length) (by omega) (by omega) (by rw [List.length_drop, List.length_take]; omega)) ?_
          refine o1 rfl (s_call call19 rfl (c_03Feed M6 hu7 st.lt ([] : List Int) ((b.take ((at_ : Int) + (k : Int)).toNat).drop ((at_ : Int)).toNat) (Sl.nil (a := none) (cap := 0)) s8 (by simp) (by rw [e3, List.length_take]; omega)) ?_)
          rintro _ hp9 ⟨a9_0, c9_0, a9_1, c9_1, rfl, s9_0, s9_1, x9⟩
          have wL3 := wL3.ext x9
          have lb6 := lb6.lift (x9)
          have st := st.ext x9
          have ns9_0 := s9_0.ll
          have ns9_1 := s9_1.ll
          refine r1 rfl (p_mv rfl) ?_
          refine r1 rfl (p_ex rfl rfl) ?_
          refine r1 rfl (p_ex rfl rfl) ?_
          refine r1 rfl (p_as rfl) ?_
          refine r1 rfl (p_as rfl) ?_
          refine o_nil ?_
          refine x_seq ?_
          have te10 : (feedF ([] : List Int) ((b.take ((at_ : Int) + (k : Int)).toNat).drop ((at_ : Int)).toNat)).1 = (feedF [] ((b.drop at_).take k)).1 := (by rw [e3])
          rw [te10] at s9_0
          try rw [te10]
          have te11 : (feedF ([] : List Int) ((b.take ((at_ : Int) + (k : Int)).toNat).drop ((at_ : Int)).toNat)).2 = (feedF [] ((b.drop at_).take k)).2 := (by rw [e3])
          rw [te11] at s9_1
          try rw [te11]
          refine x_region ?_
          refine r1 rfl (p_mv rfl) ?_
          refine r1 rfl (p_mv rfl) ?_
          refine r1 rfl (p_add64 rfl rfl (by omega)) ?_
          refine r1 rfl (p_add64 rfl rfl (by omega)) ?_
          refine r1 rfl (p_mv rfl) ?_
          refine r1 rfl (p_len runUnderlying33 rfl) ?_
          refine r1 rfl (p_min2 rfl rfl) ?_
          refine r1 rfl (p_fld runUnderlying56 rfl sizeOf3 (by decide) rfl rfl) ?_
          refine o0 (s_sto sizeOf3 rfl rfl rfl lb6 rfl ?_)
          intro hu12 u12
          have wL3 := wL3.upd u12 mb6 nob6_wL3
          have s9_0 := s9_0.gr (.upd u12 mb6)
          have s9_1 := s9_1.gr (.upd u12 mb6)
          have lb6 := u12.bl
          have st := st.upd u12 (.inl gb6)
          replace lb6 : Bl hu12 b6 [_, _, _, _, _] _ := lb6
          refine o_nil ?_
          refine x_seq ?_
          refine x_region ?_
          refine r1 rfl (p_mv rfl) ?_
          refine r1 rfl (p_len runUnderlying57 rfl) ?_
          refine r1 rfl (p_eql rfl rfl) ?_
          refine o_nil ?_
          refine x_cond rfl (fun hz => ?_) (fun hz => ?_)
          · skip
            try simp only [Bool.and_eq_true, Bool.or_eq_true, Bool.not_eq_true', decide_eq_true_eq, decide_eq_false_iff_not, Bool.or_eq_false_iff, Bool.and_eq_false_iff, Bool.not_eq_false'] at hz
            have hkl : (k : Int) = leadF (gt (b.drop at_) 0) := by
              by_cases h1 : (k : Int) < leadF (gt (b.drop at_) 0)
              · rw [feed_pre hbs k (by omega) (by omega) h1] at hz
                simp at hz; omega
              · omega
            have hw := feed_whole hbs (j := k) (by omega) (by omega) (by omega) hkl
            refine x_region ?_
            refine r1 rfl (p_mv rfl) ?_
            refine r1 rfl (p_idx runUnderlying32 sizeOf21 rfl rfl (by rw [hw]; simp) (s9_0.isi (i := 0) (by rw [hw]; simp))) ?_
            obtain ⟨cs13, R13, C13⟩ := s9_0.at_ (0) (by rw [hw]; simp)
            obtain ⟨rfl, p13⟩ := R13
            refine r1 rfl (p_ld isAgg21 rfl (C13 0 _ rfl)) ?_
            refine r1 rfl (p_mv rfl) ?_
            refine r1 rfl (p_mv rfl) ?_
            refine r1 rfl (p_mv rfl) ?_
            refine r1 rfl (p_mv rfl) ?_
            refine r1 rfl (p_add64 rfl rfl (by omega)) ?_
            refine r1 rfl (p_bs runUnderlying56 zeroValue56 pl56 rfl) ?_
            show O _ _ _ _ _ ((_, .agg #[_, _, _, _, _]) :: _) _ _
            refine o0 (s_sta rfl rfl sizeOf56 rfl lb6 rfl ?_)
            intro hu14 u14
            have wL3 := wL3.upd u14 mb6 nob6_wL3
            have lb6 := u14.bl
            have st := st.upd u14 (.inl gb6)
            replace lb6 : Bl hu14 b6 [_, _, _, _, _] _ := lb6
            refine o_nil ?_
            have e4 : gt (feedF [] ((b.drop at_).take k)).1 0 = wholeF ((b.drop at_).take k) := by rw [hw]; rfl
            have e5 : partF (b.drop at_) at_ = ⟨gt (feedF [] ((b.drop at_).take k)).1 0, at_, k, (at_ : Int) + k, false⟩ := by
              unfold partF; rw [if_neg (by omega), if_neg (by omega), ← hi0, e4]
            rw [e5]
            refine ⟨(M6), ⟨⟨rfl, rfl, rfl, rfl, trivial⟩, rfl⟩, ?_⟩
            · skip
              refine ⟨st, wL3, lb6, mb6, nob6_wL3⟩
          · skip
            try simp only [Bool.and_eq_true, Bool.or_eq_true, Bool.not_eq_true', decide_eq_true_eq, decide_eq_false_iff_not, Bool.or_eq_false_iff, Bool.and_eq_false_iff, Bool.not_eq_false'] at hz
            have hkl : (k : Int) < leadF (gt (b.drop at_) 0) := by
              by_cases h1 : (k : Int) < leadF (gt (b.drop at_) 0)
              · exact h1
              · rw [feed_whole hbs (j := k) (by omega) (by omega) (by omega) (by omega)] at hz
                simp at hz
            have e5 : partF (b.drop at_) at_ = ⟨65533, at_, max (k : Int) 1, min ((at_ : Int) + k + 1) b.length, true⟩ := by
              unfold partF; rw [if_neg (by omega), if_pos (by omega), ← hi0]
              congr 1 <;> omega
            refine x_skip ?_
            rw [e5]
            refine ⟨(M6), ⟨⟨rfl, rfl, rfl, rfl, trivial⟩, rfl⟩, ?_⟩
            · skip
              refine ⟨st, wL3, lb6, mb6, nob6_wL3⟩
        · skip
          try simp only [Bool.and_eq_true, Bool.or_eq_true, Bool.not_eq_true', decide_eq_true_eq, decide_eq_false_iff_not, Bool.or_eq_false_iff, Bool.and_eq_false_iff, Bool.not_eq_false'] at hk
          have hk0 : k = 0 := by omega
          refine x_skip ?_
          have e5 : partF (b.drop at_) at_ = ⟨65533, at_, max (k : Int) 1, at_ + 1, true⟩ := by
            unfold partF; rw [if_pos (by omega), hk0]; rfl
          rw [e5]
          refine ⟨(M6), ⟨⟨rfl, rfl, rfl, rfl, trivial⟩, rfl⟩, ?_⟩
          · skip
            refine ⟨st, wL3, lb6, mb6, nob6_wL3⟩
      · skip
        rintro M_ h' ⟨st, wL3, lb6, mb6, nowL3_b6⟩
        dsimp only
        have hpb := part_bd (at_ := at_) hbs hne (by omega)
        have hpl := part_len (b.drop at_) at_
        have hst : stepN (b.drop at_) ≤ b.length - at_ ∧ 1 ≤ stepN (b.drop at_) := by unfold stepN; omega
        refine x_seq ?_
        refine x_region ?_
        refine r1 rfl (p_mv rfl) ?_
        refine r1 rfl (p_lda isAgg56 rfl (lb6.gets rfl) sizeOf56) ?_
        refine o1 rfl (s_bs runUnderlying53 sizeOf56 zeroValue56 rfl rfl rfl rfl rfl ?_)
        intro bb15 hb15 n15
        have nmb15 : ¬ M_ bb15 := fun hh => by have := st.lt _ hh; have := n15.at_; omega
        have wL3 := wL3.ext n15.ext
        have lb6 := lb6.lift (n15.ext)
        have st := st.ext n15.ext
        have s15 : Sl rGotT M_ hb15 (some ⟨bb15, 0, none⟩) 1 ([(partF (b.drop at_) at_)] : List GotT) := n15.sl nmb15 rfl (els_cons (by exact ⟨rfl, (by omega), (by omega), (by omega), (by omega)⟩) els_nil)
        refine o1 rfl (s_app runUnderlying53 runUnderlying53 sizeOf56 typeInfo56 zeroValue56 rfl rfl rfl rfl rfl rfl wL3 s15 (Nat.le_trans st.kp.size (Nat.le_refl _)) (by first | omega | (simp only [List.length_append, List.length_cons, List.length_nil]; omega)) ?_)
        intro a17 c17 hp17 ap17 wf17
        obtain ⟨M17, am17⟩ := am ap17 wL3.mem
        have now17_b6 : ¬ Ob a17 c17 b6 := fun hh => nowL3_b6 (ap17.old _ lb6.lt hh)
        have w17_ := wf17 M17 am17
        have lb6 := ap17.kp.bl nowL3_b6 lb6
        have mb6 := am17.sub _ mb6
        have st := st.app ap17 am17 (fun b hb => .inl (wL3.ge b hb))
        have w17 := w17_
        refine r1 rfl (p_as rfl) ?_
        refine o_nil ?_
        refine x_region ?_
        refine r1 rfl (p_mv rfl) ?_
        refine r1 rfl (p_fld runUnderlying56 rfl sizeOf3 (by decide) rfl rfl) ?_
        refine r1 rfl (p_ld isAgg3 rfl (lb6.get rfl)) ?_
        refine r1 rfl (p_add64 rfl rfl (by omega)) ?_
        refine r1 rfl (p_as rfl) ?_
        refine o_nil ?_
        have e6 : (at_ : Int) + (partF (b.drop at_) at_).len = ((at_ + stepN (b.drop at_) : Nat) : Int) := by rw [hpl]; omega
        rw [e6]
        refine ⟨(at_ + stepN (b.drop at_), out ++ [partF (b.drop at_) at_], a17, c17, M17), ⟨⟨rfl, rfl, rfl, trivial⟩, rfl⟩, ?_, ?_⟩
        · skip
          refine ⟨st, w17, ?_, ?_, ?_⟩
          · omega
          · have : partsW (b.drop at_) at_ = partF (b.drop at_) at_ :: partsW ((b.drop at_).drop (stepN (b.drop at_))) (at_ + stepN (b.drop at_)) := by
              rw [partsW, dif_neg hne]
            rw [this] at hi1
            rw [List.append_assoc, List.singleton_append, ← hi1, List.drop_drop]
            rfl
          · simp; omega
        · (try dsimp only); omega
  · skip
    try simp only [Bool.and_eq_true, Bool.or_eq_true, Bool.not_eq_true', decide_eq_true_eq, decide_eq_false_iff_not, Bool.or_eq_false_iff, Bool.and_eq_false_iff, Bool.not_eq_false'] at hc
    have e0 : b.drop at_ = [] := List.drop_of_length_le (by omega)
    rw [e0, partsW, dif_pos rfl, List.append_nil] at hi1
    have te18 : out = (partsW b 0) := hi1
    rw [te18] at wL3
    try rw [te18]
    refine x_exit ?_
    refine x_seq ?_
    refine x_region ?_
    refine r1 rfl (p_mv rfl) ?_
    refine r1 rfl (p_as rfl) ?_
    refine o_nil ?_
    refine x_ret (fin1 rfl ?_)
    exact ⟨_, _, rfl, (wL3.out st hN), st.x⟩
end Go.Proofs
