import Derived.Test.YteeienbhmkiloaaGreatDoorW6
import Derived.Test.YteeienbhmkiloaaGreatDoorLX
set_option linter.unusedSimpArgs false
set_option linter.unusedVariables false
namespace Go.Proofs
open Go.Lx Tryz

structure Cell where
  kind : Int
  text : List Int
  deriving DecidableEq, Inhabited
def rCell : Rp Cell where
  k := 2
  R := fun M h x cs => ∃ (a_1 : Option Addr), ∃ (c_1 : Nat), cs = [.int .i64 x.kind, .slice a_1 x.text.length c_1] ∧ B64 x.kind ∧ Sl r32 M h a_1 c_1 x.text
  len := by rintro M h x cs ⟨a_1, c_1, rfl, p_0, s_1⟩; rfl
  one := by
    rintro M h x cs ⟨a_1, c_1, rfl, p_0, s_1⟩ v hv
    simp only [List.mem_cons, List.not_mem_nil, or_false] at hv
    rcases hv with rfl | rfl <;> rfl
  gr := by rintro M h M' h' x cs ⟨a_1, c_1, rfl, p_0, s_1⟩ g; exact ⟨a_1, c_1, rfl, p_0, s_1.gr g⟩
structure Line where
  cells : List Cell
  wrap : Bool
  deriving DecidableEq, Inhabited
def rLine : Rp Line where
  k := 2
  R := fun M h x cs => ∃ (a_0 : Option Addr), ∃ (c_0 : Nat), cs = [.slice a_0 x.cells.length c_0, .bool x.wrap] ∧ Sl rCell M h a_0 c_0 x.cells
  len := by rintro M h x cs ⟨a_0, c_0, rfl, s_0⟩; rfl
  one := by
    rintro M h x cs ⟨a_0, c_0, rfl, s_0⟩ v hv
    simp only [List.mem_cons, List.not_mem_nil, or_false] at hv
    rcases hv with rfl | rfl <;> rfl
  gr := by rintro M h M' h' x cs ⟨a_0, c_0, rfl, s_0⟩ g; exact ⟨a_0, c_0, rfl, s_0.gr g⟩
structure Cur where
  row : Int
  col : Int
  pend : Bool
  deriving DecidableEq, Inhabited
def rCur : Rp Cur where
  k := 3
  R := fun M h x cs => cs = [.int .i64 x.row, .int .i64 x.col, .bool x.pend] ∧ B64 x.row ∧ B64 x.col
  len := by rintro M h x cs ⟨rfl, p_0, p_1⟩; rfl
  one := by
    rintro M h x cs ⟨rfl, p_0, p_1⟩ v hv
    simp only [List.mem_cons, List.not_mem_nil, or_false] at hv
    rcases hv with rfl | rfl | rfl <;> rfl
  gr := by rintro M h M' h' x cs ⟨rfl, p_0, p_1⟩ g; exact ⟨rfl, p_0, p_1⟩
structure View where
  wide : Int
  high : Int
  lines : List Line
  at_ : Cur
  auto : Bool
  deriving DecidableEq, Inhabited
def rView : Rp View where
  k := 7
  R := fun M h x cs => ∃ (a_2 : Option Addr), ∃ (c_2 : Nat), cs = [.int .i64 x.wide, .int .i64 x.high, .slice a_2 x.lines.length c_2, .int .i64 x.at_.row, .int .i64 x.at_.col, .bool x.at_.pend, .bool x.auto] ∧ B64 x.wide ∧ B64 x.high ∧ Sl rLine M h a_2 c_2 x.lines ∧ B64 x.at_.row ∧ B64 x.at_.col
  len := by rintro M h x cs ⟨a_2, c_2, rfl, p_0, p_1, s_2, p_3_0, p_3_1⟩; rfl
  one := by
    rintro M h x cs ⟨a_2, c_2, rfl, p_0, p_1, s_2, p_3_0, p_3_1⟩ v hv
    simp only [List.mem_cons, List.not_mem_nil, or_false] at hv
    rcases hv with rfl | rfl | rfl | rfl | rfl | rfl | rfl <;> rfl
  gr := by rintro M h M' h' x cs ⟨a_2, c_2, rfl, p_0, p_1, s_2, p_3_0, p_3_1⟩ g; exact ⟨a_2, c_2, rfl, p_0, p_1, s_2.gr g, p_3_0, p_3_1⟩
structure PenR where
  l : List Line
  at_ : Cur
  auto : Bool
  deriving DecidableEq, Inhabited
def rPenR : Rp PenR where
  k := 5
  R := fun M h x cs => ∃ (a_0 : Option Addr), ∃ (c_0 : Nat), cs = [.slice a_0 x.l.length c_0, .int .i64 x.at_.row, .int .i64 x.at_.col, .bool x.at_.pend, .bool x.auto] ∧ Sl rLine M h a_0 c_0 x.l ∧ B64 x.at_.row ∧ B64 x.at_.col
  len := by rintro M h x cs ⟨a_0, c_0, rfl, s_0, p_1_0, p_1_1⟩; rfl
  one := by
    rintro M h x cs ⟨a_0, c_0, rfl, s_0, p_1_0, p_1_1⟩ v hv
    simp only [List.mem_cons, List.not_mem_nil, or_false] at hv
    rcases hv with rfl | rfl | rfl | rfl | rfl <;> rfl
  gr := by rintro M h M' h' x cs ⟨a_0, c_0, rfl, s_0, p_1_0, p_1_1⟩ g; exact ⟨a_0, c_0, rfl, s_0.gr g, p_1_0, p_1_1⟩
structure FeedR where
  p : PenR
  group : List Int
  raw : List Int
  parts : Int
  deriving DecidableEq, Inhabited
def rFeedR : Rp FeedR where
  k := 8
  R := fun M h x cs => ∃ (a_0_0 : Option Addr), ∃ (c_0_0 : Nat), ∃ (a_1 : Option Addr), ∃ (c_1 : Nat), ∃ (a_2 : Option Addr), ∃ (c_2 : Nat), cs = [.slice a_0_0 x.p.l.length c_0_0, .int .i64 x.p.at_.row, .int .i64 x.p.at_.col, .bool x.p.at_.pend, .bool x.p.auto, .slice a_1 x.group.length c_1, .slice a_2 x.raw.length c_2, .int .i64 x.parts] ∧ Sl rLine M h a_0_0 c_0_0 x.p.l ∧ B64 x.p.at_.row ∧ B64 x.p.at_.col ∧ Sl r32 M h a_1 c_1 x.group ∧ Sl r8 M h a_2 c_2 x.raw ∧ B64 x.parts
  len := by rintro M h x cs ⟨a_0_0, c_0_0, a_1, c_1, a_2, c_2, rfl, s_0_0, p_0_1_0, p_0_1_1, s_1, s_2, p_3⟩; rfl
  one := by
    rintro M h x cs ⟨a_0_0, c_0_0, a_1, c_1, a_2, c_2, rfl, s_0_0, p_0_1_0, p_0_1_1, s_1, s_2, p_3⟩ v hv
    simp only [List.mem_cons, List.not_mem_nil, or_false] at hv
    rcases hv with rfl | rfl | rfl | rfl | rfl | rfl | rfl | rfl <;> rfl
  gr := by rintro M h M' h' x cs ⟨a_0_0, c_0_0, a_1, c_1, a_2, c_2, rfl, s_0_0, p_0_1_0, p_0_1_1, s_1, s_2, p_3⟩ g; exact ⟨a_0_0, c_0_0, a_1, c_1, a_2, c_2, rfl, s_0_0.gr g, p_0_1_0, p_0_1_1, s_1.gr g, s_2.gr g, p_3⟩

def tailF (b : List Int) : Int :=
  if partsW b 0 = [] then 0
  else if (gt (partsW b 0) ((partsW b 0).length - 1)).bad = false ∨ reachF (b.drop (gt (partsW b 0) ((partsW b 0).length - 1)).at_.toNat) = 0 ∨ leadF (gt (b.drop (gt (partsW b 0) ((partsW b 0).length - 1)).at_.toNat) 0) ≤ reachF (b.drop (gt (partsW b 0) ((partsW b 0).length - 1)).at_.toNat) then 0
  else (gt (partsW b 0) ((partsW b 0).length - 1)).len
theorem parts_ne {s : List Int} {at_ : Int} (hs : s ≠ []) : partsW s at_ ≠ [] := by rw [partsW, dif_neg hs]; simp
theorem gt_last_cons {g g' : GotT} {r : List GotT} (hr : r ≠ []) : gt (g :: r) ((g :: r).length - 1 : Int) = gt r (r.length - 1 : Int) := by
  have := List.length_pos_iff.2 hr
  unfold gt
  rw [show ((g :: r).length - 1 : Int).toNat = (r.length - 1 : Int).toNat + 1 by rw [List.length_cons]; omega]
  rfl
/-- The last part of some bytes. -/
theorem parts_last {s : List Int} (hs : s ≠ []) (at_ : Int) : ∃ i : Nat, i < s.length ∧ gt (partsW s at_) ((partsW s at_).length - 1) = partF (s.drop i) (at_ + i) ∧ i + stepN (s.drop i) = s.length := by
  have hl := List.length_pos_iff.2 hs
  have hrl := reach_le s hs
  have hst : stepN s ≤ s.length ∧ 1 ≤ stepN s := by unfold stepN; omega
  by_cases he : s.drop (stepN s) = []
  · have h1 : stepN s = s.length := by
      have := congrArg List.length he
      rw [List.length_drop, List.length_nil] at this; omega
    refine ⟨0, hl, ?_, by simpa using h1⟩
    rw [partsW, dif_neg hs, partsW, dif_pos he]
    simp [gt]
  · obtain ⟨i, h1, h2, h3⟩ := parts_last (s := s.drop (stepN s)) he (at_ + stepN s)
    rw [List.length_drop] at h1 h3
    refine ⟨stepN s + i, by omega, ?_, by rw [← List.drop_drop] ; omega⟩
    rw [partsW, dif_neg hs, gt_last_cons (g' := default) (parts_ne he), h2, List.drop_drop]
    congr 1
    omega
  termination_by s.length
  decreasing_by
  rw [List.length_drop]; omega
theorem parts_len {s : List Int} (at_ : Int) : (partsW s at_).length ≤ s.length := by
  by_cases hs : s = []
  · rw [partsW, dif_pos hs]; simp
  · have hl := List.length_pos_iff.2 hs
    have hrl := reach_le s hs
    have hst : stepN s ≤ s.length ∧ 1 ≤ stepN s := by unfold stepN; omega
    have := parts_len (s := s.drop (stepN s)) (at_ + stepN s)
    rw [List.length_drop] at this
    rw [partsW, dif_neg hs, List.length_cons]; omega
  termination_by s.length
  decreasing_by
  have hl := List.length_pos_iff.2 hs
  have hrl := reach_le s hs
  have hst : stepN s ≤ s.length ∧ 1 ≤ stepN s := by unfold stepN; omega
  rw [List.length_drop]; omega
theorem c_Tail (N : Nat → Prop) (h : Hp) (hN : ∀ b, N b → b < h.size) (b : List Int) {a_b : Option Addr} {c_b : Nat} (s_b : Sl r8 N h a_b c_b b) (hl : b.length ≤ 100000) : C prog 29 [.slice a_b b.length c_b] h (fun v h' => v = .int .i64 (tailF b) ∧ Ext h h') := by
  have st := St.init hN
  have ns_b := s_b.ll
  refine enter func29 rfl ntmps29 results29 rfl rfl ?_
  refine x_seq ?_
  refine x_region ?_
  refine r1 rfl (p_as rfl) ?_
  refine o_nil ?_
  refine x_seq ?_
  refine x_region ?_
  refine r1 rfl (p_mv rfl) ?_
  refine o1 rfl (s_call call28 rfl (c_All N h st.lt b (s_b.gr st.gr) (by first | omega | (simp only [List.length_append, List.length_cons, List.length_nil, List.length_map, List.length_take, List.length_drop, List.length_replicate]; omega))) ?_)
  rintro _ hp1 ⟨a1, c1, rfl, s1, x1⟩
  have st := st.ext x1
  have ns1 := s1.ll
  refine r1 rfl (p_as rfl) ?_
  refine o_nil ?_
  refine x_seq ?_
  refine x_seq ?_
  refine x_region ?_
  refine r1 rfl (p_mv rfl) ?_
  refine r1 rfl (p_len runUnderlying72 rfl) ?_
  refine r1 rfl (p_eql rfl rfl) ?_
  refine o_nil ?_
  refine x_cond rfl (fun h0 => ?_) (fun h0 => ?_)
  · skip
    try simp only [Bool.and_eq_true, Bool.or_eq_true, Bool.not_eq_true', decide_eq_true_eq, decide_eq_false_iff_not, Bool.or_eq_false_iff, Bool.and_eq_false_iff, Bool.not_eq_false'] at h0
    refine x_seq ?_
    refine x_region ?_
    refine r1 rfl (p_as rfl) ?_
    refine o_nil ?_
    refine x_ret (fin1 rfl ?_)
    rw [show tailF b = 0 by unfold tailF; rw [if_pos (by simpa using h0)]]
    exact ⟨rfl, st.x⟩
  · skip
    try simp only [Bool.and_eq_true, Bool.or_eq_true, Bool.not_eq_true', decide_eq_true_eq, decide_eq_false_iff_not, Bool.or_eq_false_iff, Bool.and_eq_false_iff, Bool.not_eq_false'] at h0
    have hp0 : ¬ partsW b 0 = [] := by intro e; rw [e] at h0; simp at h0
    have hb0 : b ≠ [] := by intro e; apply hp0; rw [partsW, dif_pos e]
    obtain ⟨i, hi, hg, hst⟩ := parts_last hb0 0
    refine x_skip ?_
    refine x_seq ?_
    refine x_region ?_
    refine r1 rfl (p_mv rfl) ?_
    refine r1 rfl (p_mv rfl) ?_
    refine r1 rfl (p_len runUnderlying72 rfl) ?_
    refine r1 rfl (p_sub64 rfl rfl (by omega)) ?_
    refine r1 rfl (p_idx runUnderlying72 sizeOf103 rfl rfl (by omega) (s1.isi (i := (((partsW b 0).length : Nat) : Int) - 1) (by omega))) ?_
    obtain ⟨cs2, R2, C2⟩ := s1.at_ ((((partsW b 0).length : Nat) : Int) - 1) (by omega)
    obtain ⟨rfl, p2_0, p2_1, p2_2, p2_3⟩ := R2
    refine r1 rfl (p_lda isAgg103 rfl C2 sizeOf103) ?_
    refine o1 rfl (s_al zeroValue103 rfl ?_)
    intro b4 hb3 n3
    obtain ⟨M3, nm3⟩ := nm (M := N) n3
    have gb4 : h.size ≤ b4 := n3.ge st.kp
    have st := st.new n3 nm3
    have lb4 := n3.bl
    have mb4 := nm3.mem
    refine o0 (s_sta rfl rfl sizeOf103 rfl lb4 rfl ?_)
    intro hu4 u4
    have lb4 := u4.bl
    have st := st.upd u4 (.inl gb4)
    replace lb4 : Bl hu4 b4 [_, _, _, _, _] _ := lb4
    refine o_nil ?_
    refine x_seq ?_
    refine x_seq ?_
    have hat : (gt (partsW b 0) ((partsW b 0).length - 1 : Int)).at_ = (i : Int) := by
      rw [hg]; unfold partF; split
      · simp
      · split <;> simp
    refine x_region ?_
    refine r1 rfl (p_mv rfl) ?_
    refine r1 rfl (p_fld runUnderlying103 rfl sizeOf3 (by decide) rfl rfl) ?_
    refine r1 rfl (p_ld isAgg3 rfl (lb4.get rfl)) ?_
    have sc5 := (s_b.gr st.gr).cp
    have s5 := (s_b.gr st.gr).from_ ((gt (partsW b 0) ((((partsW b 0).length : Nat) : Int) - 1)).at_).toNat (by omega)
    refine r1 rfl (p_slfrom runUnderlying33 sizeOf5 rfl rfl (n := (b.drop ((gt (partsW b 0) ((((partsW b 0).length : Nat) : Int) - 1)).at_).toNat).length) (by rw [hat]; omega) (by rw [List.length_drop]; try omega)) ?_
    refine o1 rfl (s_call call51 rfl (c_reach M3 hu4 st.lt (b.drop ((gt (partsW b 0) ((((partsW b 0).length : Nat) : Int) - 1)).at_).toNat) s5 (by rw [List.length_drop, hat]; omega)) ?_)
    rintro _ hp6 ⟨rfl, x6⟩
    have lb4 := lb4.lift (x6)
    have st := st.ext x6
    refine r1 rfl (p_mv rfl) ?_
    refine r1 rfl (p_ex rfl rfl) ?_
    refine r1 rfl (p_ex rfl rfl) ?_
    refine r1 rfl (p_as rfl) ?_
    refine r1 rfl (p_as rfl) ?_
    refine o_nil ?_
    refine x_seq ?_
    refine x_region ?_
    refine r1 rfl (p_fld runUnderlying103 rfl sizeOf4 (by decide) rfl rfl) ?_
    refine r1 rfl (p_ld isAgg4 rfl (lb4.get rfl)) ?_
    refine r1 rfl (p_not rfl) ?_
    refine r1 rfl (p_mv rfl) ?_
    apply o_or 3 (dj := 29) (d := 32) rfl
    · intro hg6_4
      have hg6_4_ := hg6_4
      try simp only [Bool.and_eq_true, Bool.or_eq_true, Bool.not_eq_true', decide_eq_true_eq, decide_eq_false_iff_not, Bool.or_eq_false_iff, Bool.and_eq_false_iff] at hg6_4_
      refine r1h rfl rfl rfl hg6_4 (p_mv rfl) ?_
      refine r1h rfl rfl rfl hg6_4 (p_eql rfl rfl) ?_
      refine r1 rfl (p_pickf hg6_4 rfl rfl rfl) ?_
      exact o_nil ⟨rfl, rfl, by repeat (first | exact le_r _ | refine le_c rfl ?_)⟩
    · intro hg6_4
      refine o1n rfl rfl rfl hg6_4 ?_
      refine o1n rfl rfl rfl hg6_4 ?_
      refine r1 rfl (p_pickt hg6_4 rfl rfl rfl) ?_
      exact o_nil ⟨rfl, rfl, by repeat (first | exact le_r _ | refine le_c rfl ?_)⟩
    refine r1 rfl (p_mv rfl) ?_
    apply o_or 4 (dj := 33) (d := 37) rfl
    · intro hg6_8
      have hg6_8_ := hg6_8
      try simp only [Bool.and_eq_true, Bool.or_eq_true, Bool.not_eq_true', decide_eq_true_eq, decide_eq_false_iff_not, Bool.or_eq_false_iff, Bool.and_eq_false_iff] at hg6_8_
      refine r1h rfl rfl rfl hg6_8 (p_mv rfl) ?_
      refine r1h rfl rfl rfl hg6_8 (p_mv rfl) ?_
      refine r1h rfl rfl rfl hg6_8 (p_geq rfl rfl) ?_
      refine r1 rfl (p_pickf hg6_8 rfl rfl rfl) ?_
      exact o_nil ⟨rfl, rfl, by repeat (first | exact le_r _ | refine le_c rfl ?_)⟩
    · intro hg6_8
      refine o1n rfl rfl rfl hg6_8 ?_
      refine o1n rfl rfl rfl hg6_8 ?_
      refine o1n rfl rfl rfl hg6_8 ?_
      refine r1 rfl (p_pickt hg6_8 rfl rfl rfl) ?_
      exact o_nil ⟨rfl, rfl, by repeat (first | exact le_r _ | refine le_c rfl ?_)⟩
    refine o_nil ?_
    refine x_cond rfl (fun h5 => ?_) (fun h5 => ?_)
    · skip
      try simp only [Bool.and_eq_true, Bool.or_eq_true, Bool.not_eq_true', decide_eq_true_eq, decide_eq_false_iff_not, Bool.or_eq_false_iff, Bool.and_eq_false_iff, Bool.not_eq_false'] at h5
      refine x_seq ?_
      refine x_region ?_
      refine r1 rfl (p_as rfl) ?_
      refine o_nil ?_
      refine x_ret (fin1 rfl ?_)
      rw [show tailF b = 0 by unfold tailF; rw [if_neg hp0, if_pos (by rcases h5 with (h5 | h5) | h5; exact .inl h5; exact .inr (.inl (by exact_mod_cast h5)); exact .inr (.inr h5))]]
      exact ⟨rfl, st.x⟩
    · skip
      try simp only [Bool.and_eq_true, Bool.or_eq_true, Bool.not_eq_true', decide_eq_true_eq, decide_eq_false_iff_not, Bool.or_eq_false_iff, Bool.and_eq_false_iff, Bool.not_eq_false'] at h5
      refine x_skip ?_
      refine x_seq ?_
      refine x_region ?_
      refine r1 rfl (p_fld runUnderlying103 rfl sizeOf3 (by decide) rfl rfl) ?_
      refine r1 rfl (p_ld isAgg3 rfl (lb4.get rfl)) ?_
      refine r1 rfl (p_as rfl) ?_
      refine o_nil ?_
      refine x_ret (fin1 rfl ?_)
      have e : tailF b = (gt (partsW b 0) ((partsW b 0).length - 1 : Int)).len := by
        unfold tailF; rw [if_neg hp0, if_neg (by intro hh; rcases hh with hh | hh | hh; rw [h5.1.1] at hh; cases hh; exact h5.1.2 (by exact_mod_cast hh); exact h5.2 hh)]
      rw [e]
      exact ⟨rfl, st.x⟩

def heldF (raw : List Int) : Int := (feedF [] raw).2.length
theorem c_37Held (N : Nat → Prop) (h : Hp) (hN : ∀ b, N b → b < h.size) (f : FeedR) {a_f_p_l : Option Addr} {c_f_p_l : Nat} {a_f_group : Option Addr} {c_f_group : Nat} {a_f_raw : Option Addr} {c_f_raw : Nat} (s_f_p_l : Sl rLine N h a_f_p_l c_f_p_l f.p.l) (p_f_p_at__row : B64 f.p.at_.row) (p_f_p_at__col : B64 f.p.at_.col) (s_f_group : Sl r32 N h a_f_group c_f_group f.group) (s_f_raw : Sl r8 N h a_f_raw c_f_raw f.raw) (p_f_parts : B64 f.parts) (hl : f.raw.length ≤ 100000) : C prog 10 [.agg #[.slice a_f_p_l f.p.l.length c_f_p_l, .int .i64 f.p.at_.row, .int .i64 f.p.at_.col, .bool f.p.at_.pend, .bool f.p.auto, .slice a_f_group f.group.length c_f_group, .slice a_f_raw f.raw.length c_f_raw, .int .i64 f.parts]] h (fun v h' => v = .int .i64 (heldF f.raw) ∧ Ext h h') := by
  have st := St.init hN
  have ns_f_p_l := s_f_p_l.ll
  have ns_f_group := s_f_group.ll
  have ns_f_raw := s_f_raw.ll
  refine enter func10 rfl ntmps10 results10 rfl rfl ?_
  refine x_seq ?_
  refine x_region ?_
  refine o1 rfl (s_box rfl rfl ?_)
  intro b1 hb1 n1
  obtain ⟨M1, nm1⟩ := nm (M := N) n1
  have gb1 : h.size ≤ b1 := n1.ge st.kp
  have st := st.new n1 nm1
  have lb1 := n1.bl
  have mb1 := nm1.mem
  refine r1 rfl (p_as rfl) ?_
  refine o_nil ?_
  refine x_seq ?_
  refine x_region ?_
  refine r1 rfl (p_fld runUnderlying35 rfl sizeOf33 (by decide) rfl rfl) ?_
  refine r1 rfl (p_ld isAgg33 rfl (lb1.get rfl)) ?_
  refine o1 rfl (s_call call19 rfl (c_03Feed M1 hb1 st.lt ([] : List Int) f.raw (Sl.nil (a := none) (cap := 0)) (s_f_raw.gr st.gr) (by simp) (by first | omega | (simp only [List.length_append, List.length_cons, List.length_nil, List.length_map, List.length_take, List.length_drop, List.length_replicate]; omega))) ?_)
  rintro _ hp2 ⟨a2_0, c2_0, a2_1, c2_1, rfl, s2_0, s2_1, x2⟩
  have lb1 := lb1.lift (x2)
  have st := st.ext x2
  have ns2_0 := s2_0.ll
  have ns2_1 := s2_1.ll
  refine r1 rfl (p_mv rfl) ?_
  refine r1 rfl (p_ex rfl rfl) ?_
  refine r1 rfl (p_ex rfl rfl) ?_
  refine r1 rfl (p_as rfl) ?_
  refine r1 rfl (p_as rfl) ?_
  refine o_nil ?_
  refine x_seq ?_
  refine x_region ?_
  refine r1 rfl (p_mv rfl) ?_
  refine r1 rfl (p_len runUnderlying57 rfl) ?_
  refine r1 rfl (p_as rfl) ?_
  refine o_nil ?_
  refine x_ret (fin1 rfl ?_)
  exact ⟨rfl, st.x⟩
theorem c_37Rune (N : Nat → Prop) (h : Hp) (hN : ∀ b, N b → b < h.size) (f : FeedR) (r : Int) {a_f_p_l : Option Addr} {c_f_p_l : Nat} {a_f_group : Option Addr} {c_f_group : Nat} {a_f_raw : Option Addr} {c_f_raw : Nat} (s_f_p_l : Sl rLine N h a_f_p_l c_f_p_l f.p.l) (p_f_p_at__row : B64 f.p.at_.row) (p_f_p_at__col : B64 f.p.at_.col) (s_f_group : Sl r32 N h a_f_group c_f_group f.group) (s_f_raw : Sl r8 N h a_f_raw c_f_raw f.raw) (p_f_parts : B64 f.parts) (p_r : B32 r) (hl : f.group.length ≤ 100000) : C prog 11 [.agg #[.slice a_f_p_l f.p.l.length c_f_p_l, .int .i64 f.p.at_.row, .int .i64 f.p.at_.col, .bool f.p.at_.pend, .bool f.p.auto, .slice a_f_group f.group.length c_f_group, .slice a_f_raw f.raw.length c_f_raw, .int .i64 f.parts], .int .i32 r] h (fun v h' => ∃ (ar_p_l : Option Addr) (cr_p_l : Nat), ∃ (ar_group : Option Addr) (cr_group : Nat), ∃ (ar_raw : Option Addr) (cr_raw : Nat), v = .agg #[.slice ar_p_l ((({ f with group := f.group ++ [if valid r then r else 65533] } : FeedR).p).l).length cr_p_l, .int .i64 (((({ f with group := f.group ++ [if valid r then r else 65533] } : FeedR).p).at_).row), .int .i64 (((({ f with group := f.group ++ [if valid r then r else 65533] } : FeedR).p).at_).col), .bool (((({ f with group := f.group ++ [if valid r then r else 65533] } : FeedR).p).at_).pend), .bool ((({ f with group := f.group ++ [if valid r then r else 65533] } : FeedR).p).auto), .slice ar_group (({ f with group := f.group ++ [if valid r then r else 65533] } : FeedR).group).length cr_group, .slice ar_raw (({ f with group := f.group ++ [if valid r then r else 65533] } : FeedR).raw).length cr_raw, .int .i64 (({ f with group := f.group ++ [if valid r then r else 65533] } : FeedR).parts)] ∧ Sl rLine N h' ar_p_l cr_p_l ((({ f with group := f.group ++ [if valid r then r else 65533] } : FeedR).p).l) ∧ B64 (((({ f with group := f.group ++ [if valid r then r else 65533] } : FeedR).p).at_).row) ∧ B64 (((({ f with group := f.group ++ [if valid r then r else 65533] } : FeedR).p).at_).col) ∧ Sl r32 N h' ar_group cr_group (({ f with group := f.group ++ [if valid r then r else 65533] } : FeedR).group) ∧ Sl r8 N h' ar_raw cr_raw (({ f with group := f.group ++ [if valid r then r else 65533] } : FeedR).raw) ∧ B64 (({ f with group := f.group ++ [if valid r then r else 65533] } : FeedR).parts) ∧ Ext h h') := by
  have st := St.init hN
  have ns_f_p_l := s_f_p_l.ll
  have ns_f_group := s_f_group.ll
  have ns_f_raw := s_f_raw.ll
  refine enter func11 rfl ntmps11 results11 rfl rfl ?_
  refine x_seq ?_
  refine x_region ?_
  refine o1 rfl (s_box rfl rfl ?_)
  intro b2 hb1 n1
  obtain ⟨M1, nm1⟩ := nm (M := N) n1
  have gb2 : h.size ≤ b2 := n1.ge st.kp
  have st := st.new n1 nm1
  have lb2 := n1.bl
  have mb2 := nm1.mem
  refine o1 rfl (s_al zeroValue35 rfl ?_)
  intro b4 hb2 n2
  obtain ⟨M2, nm2⟩ := nm (M := M1) n2
  have gb4 : h.size ≤ b4 := n2.ge st.kp
  have neb4_b2 : b4 ≠ b2 := n2.ne lb2
  have lb2 := lb2.lift (n2.ext)
  have mb2 := nm2.sub _ mb2
  have st := st.new n2 nm2
  have lb4 := n2.bl
  have mb4 := nm2.mem
  refine o_nil ?_
  refine x_seq ?_
  refine x_seq ?_
  refine x_region ?_
  refine r1 rfl (p_mv rfl) ?_
  refine o1 rfl (s_call call20 rfl (c_01Valid M2 hb2 st.lt r) ?_)
  rintro _ hp3 ⟨rfl, x3⟩
  have lb2 := lb2.lift (x3)
  have lb4 := lb4.lift (x3)
  have st := st.ext x3
  refine r1 rfl (p_not rfl) ?_
  refine o_nil ?_
  refine x_cond rfl (fun h1 => ?_) (fun h1 => ?_)
  · skip
    try simp only [Bool.and_eq_true, Bool.or_eq_true, Bool.not_eq_true', decide_eq_true_eq, decide_eq_false_iff_not, Bool.or_eq_false_iff, Bool.and_eq_false_iff, Bool.not_eq_false'] at h1
    refine x_region ?_
    refine r1 rfl (p_as rfl) ?_
    refine o_nil ?_
    refine x_seq ?_
    refine x_region ?_
    refine o1 rfl (s_bs0 runUnderlying32 sizeOf21 ?_)
    intro bb4 hb4 n4
    have lb2 := lb2.lift (n4.ext)
    have lb4 := lb4.lift (n4.ext)
    have st := st.ext n4.ext
    have s4 : Ow h.size 21 r32 M2 hb4 (some ⟨bb4, 0, none⟩) 0 [] := .nil
    have nos4_b2 : ¬ Ob (some ⟨bb4, 0, none⟩) 0 b2 := fun hh => by have := hh.1; omega
    have nos4_b4 : ¬ Ob (some ⟨bb4, 0, none⟩) 0 b4 := fun hh => by have := hh.1; omega
    refine r1 rfl (p_fld runUnderlying35 rfl sizeOf32 (by decide) rfl rfl) ?_
    refine r1 rfl (p_ld isAgg32 rfl (lb2.get rfl)) ?_
    refine o1 rfl (s_app runUnderlying32 runUnderlying32 sizeOf21 typeInfo21 zeroValue21 rfl rfl rfl rfl rfl rfl s4 (s_f_group.gr st.gr) (Nat.le_trans st.kp.size (Nat.le_refl _)) (by first | omega | (simp only [List.length_append, List.length_cons, List.length_nil]; omega)) ?_)
    intro a6 c6 hp6 ap6 wf6
    obtain ⟨M6, am6⟩ := am ap6 s4.mem
    have now6_b2 : ¬ Ob a6 c6 b2 := fun hh => nos4_b2 (ap6.old _ lb2.lt hh)
    have now6_b4 : ¬ Ob a6 c6 b4 := fun hh => nos4_b4 (ap6.old _ lb4.lt hh)
    have w6_ := wf6 M6 am6
    have lb2 := ap6.kp.bl nos4_b2 lb2
    have mb2 := am6.sub _ mb2
    have lb4 := ap6.kp.bl nos4_b4 lb4
    have mb4 := am6.sub _ mb4
    have st := st.app ap6 am6 (fun b hb => .inl (s4.ge b hb))
    have w6 := w6_
    replace w6 : Ow h.size 21 r32 M6 hp6 a6 c6 f.group := w6
    refine r1 rfl (p_mv rfl) ?_
    refine o1 rfl (s_bs runUnderlying32 sizeOf21 zeroValue21 rfl rfl rfl rfl rfl ?_)
    intro bb7 hb7 n7
    have nmb7 : ¬ M6 bb7 := fun hh => by have := st.lt _ hh; have := n7.at_; omega
    have w6 := w6.ext n7.ext
    have lb2 := lb2.lift (n7.ext)
    have lb4 := lb4.lift (n7.ext)
    have st := st.ext n7.ext
    have s7 : Sl r32 M6 hb7 (some ⟨bb7, 0, none⟩) 1 ([65533] : List Int) := n7.sl nmb7 rfl (els_cons (by exact ⟨rfl, (by omega)⟩) els_nil)
    refine o1 rfl (s_app runUnderlying32 runUnderlying32 sizeOf21 typeInfo21 zeroValue21 rfl rfl rfl rfl rfl rfl w6 s7 (Nat.le_trans st.kp.size (Nat.le_refl _)) (by first | omega | (simp only [List.length_append, List.length_cons, List.length_nil]; omega)) ?_)
    intro a9 c9 hp9 ap9 wf9
    obtain ⟨M9, am9⟩ := am ap9 w6.mem
    have now9_b2 : ¬ Ob a9 c9 b2 := fun hh => now6_b2 (ap9.old _ lb2.lt hh)
    have now9_b4 : ¬ Ob a9 c9 b4 := fun hh => now6_b4 (ap9.old _ lb4.lt hh)
    have w9_ := wf9 M9 am9
    have lb2 := ap9.kp.bl now6_b2 lb2
    have mb2 := am9.sub _ mb2
    have lb4 := ap9.kp.bl now6_b4 lb4
    have mb4 := am9.sub _ mb4
    have st := st.app ap9 am9 (fun b hb => .inl (w6.ge b hb))
    have w9 := w9_
    refine r1 rfl (p_fld runUnderlying35 rfl sizeOf32 (by decide) rfl rfl) ?_
    refine o0 (s_sto sizeOf32 rfl rfl rfl lb2 rfl ?_)
    intro hu10 u10
    have w9 := w9.upd u10 mb2 now9_b2
    have lb2 := u10.bl
    have lb4 := u10.kp.bl neb4_b2 lb4
    have st := st.upd u10 (.inl gb2)
    replace lb2 : Bl hu10 b2 [_, _, _, _, _, _, _, _] _ := lb2
    refine o_nil ?_
    refine x_seq ?_
    refine x_region ?_
    refine r1 rfl (p_lda isAgg35 rfl (lb2.gets rfl) sizeOf35) ?_
    refine o0 (s_sta rfl rfl sizeOf35 rfl lb4 rfl ?_)
    intro hu11 u11
    have w9 := w9.upd u11 mb4 now9_b4
    have lb2 := u11.kp.bl (Ne.symm neb4_b2) lb2
    have lb4 := u11.bl
    have st := st.upd u11 (.inl gb4)
    replace lb4 : Bl hu11 b4 [_, _, _, _, _, _, _, _] _ := lb4
    refine o_nil ?_
    refine x_ret (fin1 (ret_cell isAgg35 rfl (lb4.gets rfl) sizeOf35) ?_)
    rw [h1]
    exact ⟨_, _, _, _, _, _, rfl, ((s_f_p_l.gr st.gr).out st), p_f_p_at__row, p_f_p_at__col, (w9.out st hN), ((s_f_raw.gr st.gr).out st), p_f_parts, st.x⟩
  · skip
    try simp only [Bool.and_eq_true, Bool.or_eq_true, Bool.not_eq_true', decide_eq_true_eq, decide_eq_false_iff_not, Bool.or_eq_false_iff, Bool.and_eq_false_iff, Bool.not_eq_false'] at h1
    refine x_skip ?_
    refine x_seq ?_
    refine x_region ?_
    refine o1 rfl (s_bs0 runUnderlying32 sizeOf21 ?_)
    intro bb12 hb12 n12
    have lb2 := lb2.lift (n12.ext)
    have lb4 := lb4.lift (n12.ext)
    have st := st.ext n12.ext
    have s12 : Ow h.size 21 r32 M2 hb12 (some ⟨bb12, 0, none⟩) 0 [] := .nil
    have nos12_b2 : ¬ Ob (some ⟨bb12, 0, none⟩) 0 b2 := fun hh => by have := hh.1; omega
    have nos12_b4 : ¬ Ob (some ⟨bb12, 0, none⟩) 0 b4 := fun hh => by have := hh.1; omega
    refine r1 rfl (p_fld runUnderlying35 rfl sizeOf32 (by decide) rfl rfl) ?_
    refine r1 rfl (p_ld isAgg32 rfl (lb2.get rfl)) ?_
    refine o1 rfl (s_app runUnderlying32 runUnderlying32 sizeOf21 typeInfo21 zeroValue21 rfl rfl rfl rfl rfl rfl s12 (s_f_group.gr st.gr) (Nat.le_trans st.kp.size (Nat.le_refl _)) (by first | omega | (simp only [List.length_append, List.length_cons, List.length_nil]; omega)) ?_)
    intro a14 c14 hp14 ap14 wf14
    obtain ⟨M14, am14⟩ := am ap14 s12.mem
    have now14_b2 : ¬ Ob a14 c14 b2 := fun hh => nos12_b2 (ap14.old _ lb2.lt hh)
    have now14_b4 : ¬ Ob a14 c14 b4 := fun hh => nos12_b4 (ap14.old _ lb4.lt hh)
    have w14_ := wf14 M14 am14
    have lb2 := ap14.kp.bl nos12_b2 lb2
    have mb2 := am14.sub _ mb2
    have lb4 := ap14.kp.bl nos12_b4 lb4
    have mb4 := am14.sub _ mb4
    have st := st.app ap14 am14 (fun b hb => .inl (s12.ge b hb))
    have w14 := w14_
    replace w14 : Ow h.size 21 r32 M14 hp14 a14 c14 f.group := w14
    refine r1 rfl (p_mv rfl) ?_
    refine o1 rfl (s_bs runUnderlying32 sizeOf21 zeroValue21 rfl rfl rfl rfl rfl ?_)
    intro bb15 hb15 n15
    have nmb15 : ¬ M14 bb15 := fun hh => by have := st.lt _ hh; have := n15.at_; omega
    have w14 := w14.ext n15.ext
    have lb2 := lb2.lift (n15.ext)
    have lb4 := lb4.lift (n15.ext)
    have st := st.ext n15.ext
    have s15 : Sl r32 M14 hb15 (some ⟨bb15, 0, none⟩) 1 ([r] : List Int) := n15.sl nmb15 rfl (els_cons (by exact ⟨rfl, p_r⟩) els_nil)
    refine o1 rfl (s_app runUnderlying32 runUnderlying32 sizeOf21 typeInfo21 zeroValue21 rfl rfl rfl rfl rfl rfl w14 s15 (Nat.le_trans st.kp.size (Nat.le_refl _)) (by first | omega | (simp only [List.length_append, List.length_cons, List.length_nil]; omega)) ?_)
    intro a17 c17 hp17 ap17 wf17
    obtain ⟨M17, am17⟩ := am ap17 w14.mem
    have now17_b2 : ¬ Ob a17 c17 b2 := fun hh => now14_b2 (ap17.old _ lb2.lt hh)
    have now17_b4 : ¬ Ob a17 c17 b4 := fun hh => now14_b4 (ap17.old _ lb4.lt hh)
    have w17_ := wf17 M17 am17
    have lb2 := ap17.kp.bl now14_b2 lb2
    have mb2 := am17.sub _ mb2
    have lb4 := ap17.kp.bl now14_b4 lb4
    have mb4 := am17.sub _ mb4
    have st := st.app ap17 am17 (fun b hb => .inl (w14.ge b hb))
    have w17 := w17_
    refine r1 rfl (p_fld runUnderlying35 rfl sizeOf32 (by decide) rfl rfl) ?_
    refine o0 (s_sto sizeOf32 rfl rfl rfl lb2 rfl ?_)
    intro hu18 u18
    have w17 := w17.upd u18 mb2 now17_b2
    have lb2 := u18.bl
    have lb4 := u18.kp.bl neb4_b2 lb4
    have st := st.upd u18 (.inl gb2)
    replace lb2 : Bl hu18 b2 [_, _, _, _, _, _, _, _] _ := lb2
    refine o_nil ?_
    refine x_seq ?_
    refine x_region ?_
    refine r1 rfl (p_lda isAgg35 rfl (lb2.gets rfl) sizeOf35) ?_
    refine o0 (s_sta rfl rfl sizeOf35 rfl lb4 rfl ?_)
    intro hu19 u19
    have w17 := w17.upd u19 mb4 now17_b4
    have lb2 := u19.kp.bl (Ne.symm neb4_b2) lb2
    have lb4 := u19.bl
    have st := st.upd u19 (.inl gb4)
    replace lb4 : Bl hu19 b4 [_, _, _, _, _, _, _, _] _ := lb4
    refine o_nil ?_
    refine x_ret (fin1 (ret_cell isAgg35 rfl (lb4.gets rfl) sizeOf35) ?_)
    rw [h1]
    exact ⟨_, _, _, _, _, _, rfl, ((s_f_p_l.gr st.gr).out st), p_f_p_at__row, p_f_p_at__col, (w17.out st hN), ((s_f_raw.gr st.gr).out st), p_f_parts, st.x⟩
/-- The parts of some bytes, but for what may go on. -/
def fedF (raw : List Int) : List GotT := if 0 < heldF raw then (partsW raw 0).take ((partsW raw 0).length - 1) else partsW raw 0
def bytesF (f : FeedR) (b : List Int) : FeedR :=
  { f with raw := f.raw ++ b, group := f.group ++ ((fedF (f.raw ++ b)).drop f.parts.toNat).map GotT.r, parts := (fedF (f.raw ++ b)).length }
theorem drop_take_succ {α : Type} [Inhabited α] {l : List α} {m i : Nat} (h : m + i < l.length) : (l.drop m).take (i + 1) = (l.drop m).take i ++ [gt l ((m : Int) + i)] := by
  have hd : i < (l.drop m).length := by rw [List.length_drop]; omega
  rw [List.take_succ_eq_append_getElem hd]
  congr 2
  rw [List.getElem_drop, show ((m : Int) + i) = ((m + i : Nat) : Int) by omega, gt_lt h]
theorem c_37Bytes (N : Nat → Prop) (h : Hp) (hN : ∀ b, N b → b < h.size) (f : FeedR) (b : List Int) {a_f_p_l : Option Addr} {c_f_p_l : Nat} {a_f_group : Option Addr} {c_f_group : Nat} {a_f_raw : Option Addr} {c_f_raw : Nat} {a_b : Option Addr} {c_b : Nat} (s_f_p_l : Sl rLine N h a_f_p_l c_f_p_l f.p.l) (p_f_p_at__row : B64 f.p.at_.row) (p_f_p_at__col : B64 f.p.at_.col) (s_f_group : Sl r32 N h a_f_group c_f_group f.group) (s_f_raw : Sl r8 N h a_f_raw c_f_raw f.raw) (p_f_parts : B64 f.parts) (s_b : Sl r8 N h a_b c_b b) (hl : f.raw.length + b.length ≤ 100000) (hg : f.group.length ≤ 1000000) (hp : 0 ≤ f.parts) : C prog 9 [.agg #[.slice a_f_p_l f.p.l.length c_f_p_l, .int .i64 f.p.at_.row, .int .i64 f.p.at_.col, .bool f.p.at_.pend, .bool f.p.auto, .slice a_f_group f.group.length c_f_group, .slice a_f_raw f.raw.length c_f_raw, .int .i64 f.parts], .slice a_b b.length c_b] h (fun v h' => ∃ (ar_p_l : Option Addr) (cr_p_l : Nat), ∃ (ar_group : Option Addr) (cr_group : Nat), ∃ (ar_raw : Option Addr) (cr_raw : Nat), v = .agg #[.slice ar_p_l (((bytesF f b).p).l).length cr_p_l, .int .i64 ((((bytesF f b).p).at_).row), .int .i64 ((((bytesF f b).p).at_).col), .bool ((((bytesF f b).p).at_).pend), .bool (((bytesF f b).p).auto), .slice ar_group ((bytesF f b).group).length cr_group, .slice ar_raw ((bytesF f b).raw).length cr_raw, .int .i64 ((bytesF f b).parts)] ∧ Sl rLine N h' ar_p_l cr_p_l (((bytesF f b).p).l) ∧ B64 ((((bytesF f b).p).at_).row) ∧ B64 ((((bytesF f b).p).at_).col) ∧ Sl r32 N h' ar_group cr_group ((bytesF f b).group) ∧ Sl r8 N h' ar_raw cr_raw ((bytesF f b).raw) ∧ B64 ((bytesF f b).parts) ∧ Ext h h') := by
  have st := St.init hN
  have ns_f_p_l := s_f_p_l.ll
  have ns_f_group := s_f_group.ll
  have ns_f_raw := s_f_raw.ll
  have ns_b := s_b.ll
  refine enter func9 rfl ntmps9 results9 rfl rfl ?_
  refine x_seq ?_
  refine x_region ?_
  refine o1 rfl (s_box rfl rfl ?_)
  intro b2 hb1 n1
  obtain ⟨M1, nm1⟩ := nm (M := N) n1
  have gb2 : h.size ≤ b2 := n1.ge st.kp
  have st := st.new n1 nm1
  have lb2 := n1.bl
  have mb2 := nm1.mem
  refine o1 rfl (s_al zeroValue35 rfl ?_)
  intro b4 hb2 n2
  obtain ⟨M2, nm2⟩ := nm (M := M1) n2
  have gb4 : h.size ≤ b4 := n2.ge st.kp
  have neb4_b2 : b4 ≠ b2 := n2.ne lb2
  have lb2 := lb2.lift (n2.ext)
  have mb2 := nm2.sub _ mb2
  have st := st.new n2 nm2
  have lb4 := n2.bl
  have mb4 := nm2.mem
  refine o_nil ?_
  refine x_seq ?_
  refine x_region ?_
  refine o1 rfl (s_bs0 runUnderlying33 sizeOf5 ?_)
  intro bb3 hb3 n3
  have lb2 := lb2.lift (n3.ext)
  have lb4 := lb4.lift (n3.ext)
  have st := st.ext n3.ext
  have s3 : Ow h.size 5 r8 M2 hb3 (some ⟨bb3, 0, none⟩) 0 [] := .nil
  have nos3_b2 : ¬ Ob (some ⟨bb3, 0, none⟩) 0 b2 := fun hh => by have := hh.1; omega
  have nos3_b4 : ¬ Ob (some ⟨bb3, 0, none⟩) 0 b4 := fun hh => by have := hh.1; omega
  refine r1 rfl (p_fld runUnderlying35 rfl sizeOf33 (by decide) rfl rfl) ?_
  refine r1 rfl (p_ld isAgg33 rfl (lb2.get rfl)) ?_
  refine o1 rfl (s_app runUnderlying33 runUnderlying33 sizeOf5 typeInfo5 zeroValue5 rfl rfl rfl rfl rfl rfl s3 (s_f_raw.gr st.gr) (Nat.le_trans st.kp.size (Nat.le_refl _)) (by first | omega | (simp only [List.length_append, List.length_cons, List.length_nil]; omega)) ?_)
  intro a5 c5 hp5 ap5 wf5
  obtain ⟨M5, am5⟩ := am ap5 s3.mem
  have now5_b2 : ¬ Ob a5 c5 b2 := fun hh => nos3_b2 (ap5.old _ lb2.lt hh)
  have now5_b4 : ¬ Ob a5 c5 b4 := fun hh => nos3_b4 (ap5.old _ lb4.lt hh)
  have w5_ := wf5 M5 am5
  have lb2 := ap5.kp.bl nos3_b2 lb2
  have mb2 := am5.sub _ mb2
  have lb4 := ap5.kp.bl nos3_b4 lb4
  have mb4 := am5.sub _ mb4
  have st := st.app ap5 am5 (fun b hb => .inl (s3.ge b hb))
  have w5 := w5_
  replace w5 : Ow h.size 5 r8 M5 hp5 a5 c5 f.raw := w5
  refine r1 rfl (p_mv rfl) ?_
  refine o1 rfl (s_app runUnderlying33 runUnderlying33 sizeOf5 typeInfo5 zeroValue5 rfl rfl rfl rfl rfl rfl w5 (s_b.gr st.gr) (Nat.le_trans st.kp.size (Nat.le_refl _)) (by first | omega | (simp only [List.length_append, List.length_cons, List.length_nil]; omega)) ?_)
  intro a7 c7 hp7 ap7 wf7
  obtain ⟨M7, am7⟩ := am ap7 w5.mem
  have now7_b2 : ¬ Ob a7 c7 b2 := fun hh => now5_b2 (ap7.old _ lb2.lt hh)
  have now7_b4 : ¬ Ob a7 c7 b4 := fun hh => now5_b4 (ap7.old _ lb4.lt hh)
  have w7_ := wf7 M7 am7
  have lb2 := ap7.kp.bl now5_b2 lb2
  have mb2 := am7.sub _ mb2
  have lb4 := ap7.kp.bl now5_b4 lb4
  have mb4 := am7.sub _ mb4
  have st := st.app ap7 am7 (fun b hb => .inl (w5.ge b hb))
  have w7 := w7_
  refine r1 rfl (p_fld runUnderlying35 rfl sizeOf33 (by decide) rfl rfl) ?_
  refine o0 (s_sto sizeOf33 rfl rfl rfl lb2 rfl ?_)
  intro hu8 u8
  have w7 := w7.upd u8 mb2 now7_b2
  have lb2 := u8.bl
  have lb4 := u8.kp.bl neb4_b2 lb4
  have st := st.upd u8 (.inl gb2)
  replace lb2 : Bl hu8 b2 [_, _, _, _, _, _, _, _] _ := lb2
  refine o_nil ?_
  refine x_seq ?_
  refine x_region ?_
  refine r1 rfl (p_fld runUnderlying35 rfl sizeOf33 (by decide) rfl rfl) ?_
  refine r1 rfl (p_ld isAgg33 rfl (lb2.get rfl)) ?_
  obtain ⟨M9, fz9, st9, s9⟩ := w7.fz st hN
  have mb2 := fz9.keep _ mb2 now7_b2
  have mb4 := fz9.keep _ mb4 now7_b4
  have st := st9
  refine o1 rfl (s_call call18 rfl (c_04All M9 hu8 st.lt (f.raw ++ b) s9 (by first | omega | (simp only [List.length_append, List.length_cons, List.length_nil, List.length_map, List.length_take, List.length_drop, List.length_replicate]; omega))) ?_)
  rintro _ hp10 ⟨a10, c10, rfl, s10, x10⟩
  have s9 := s9.gr (.ext x10)
  have lb2 := lb2.lift (x10)
  have lb4 := lb4.lift (x10)
  have st := st.ext x10
  have ns10 := s10.ll
  refine r1 rfl (p_as rfl) ?_
  refine o_nil ?_
  refine x_cute (σ := (Option Addr) × Nat × (Nat → Prop)) (fun st_ E0 => match st_ with | (aL5, cL5, M_) => (5, .slice aL5 (fedF (f.raw ++ b)).length cL5) :: E0) [(2, .pointer (some ⟨b2, 0, none⟩)), (4, .pointer (some ⟨b4, 0, none⟩))] (fun st_ h' => match st_ with | (aL5, cL5, M_) => St N h (fun _ => False) M_ h' ∧ Sl rGotT M_ h' aL5 cL5 (fedF (f.raw ++ b)) ∧ Sl r8 M_ h' a7 c7 (f.raw ++ b) ∧ Bl h' b2 [.slice a_f_p_l f.p.l.length c_f_p_l, .int .i64 f.p.at_.row, .int .i64 f.p.at_.col, .bool f.p.at_.pend, .bool f.p.auto, .slice a_f_group f.group.length c_f_group, .slice a7 (f.raw ++ b).length c7, .int .i64 f.parts] 35 ∧ M_ b2 ∧ Bl h' b4 [.slice none 0 0, .int .i64 0, .int .i64 0, .bool false, .bool false, .slice none 0 0, .slice none 0 0, .int .i64 0] 35 ∧ M_ b4) ?_ ?_
  · skip
    refine x_seq ?_
    refine x_region ?_
    refine r1 rfl (p_lda isAgg35 rfl (lb2.gets rfl) sizeOf35) ?_
    refine o1 rfl (s_call call10 rfl (c_37Held M9 hp10 st.lt (⟨f.p, f.group, f.raw ++ b, f.parts⟩ : FeedR) (s_f_p_l.gr st.gr) p_f_p_at__row p_f_p_at__col (s_f_group.gr st.gr) s9 p_f_parts (by first | omega | (simp only [List.length_append, List.length_cons, List.length_nil, List.length_map, List.length_take, List.length_drop, List.length_replicate]; omega))) ?_)
    rintro _ hp11 ⟨rfl, x11⟩
    have s10 := s10.gr (.ext x11)
    have s9 := s9.gr (.ext x11)
    have lb2 := lb2.lift (x11)
    have lb4 := lb4.lift (x11)
    have st := st.ext x11
    refine r1 rfl (p_gtr rfl rfl) ?_
    refine o_nil ?_
    refine x_cond rfl (fun h1 => ?_) (fun h1 => ?_)
    · skip
      try simp only [Bool.and_eq_true, Bool.or_eq_true, Bool.not_eq_true', decide_eq_true_eq, decide_eq_false_iff_not, Bool.or_eq_false_iff, Bool.and_eq_false_iff, Bool.not_eq_false'] at h1
      have hpos : 1 ≤ (partsW (f.raw ++ b) 0).length := by
        have : f.raw ++ b ≠ [] := by intro e; unfold heldF at h1; rw [e] at h1; simp [feedF] at h1
        exact List.length_pos_iff.2 (parts_ne this)
      refine x_region ?_
      refine r1 rfl (p_mv rfl) ?_
      refine r1 rfl (p_mv rfl) ?_
      refine r1 rfl (p_len runUnderlying53 rfl) ?_
      refine r1 rfl (p_sub64 rfl rfl (by omega)) ?_
      have sc12 := s10.cp
      have s12 := s10.to ((((partsW (f.raw ++ b) 0).length : Nat) : Int) - 1).toNat (by omega)
      refine r1 rfl (p_slto runUnderlying53 sizeOf56 rfl rfl (n := ((partsW (f.raw ++ b) 0).take ((((partsW (f.raw ++ b) 0).length : Nat) : Int) - 1).toNat).length) (by omega) (by rw [List.length_take]; omega)) ?_
      refine r1 rfl (p_as rfl) ?_
      refine o_nil ?_
      have te13 : (partsW (f.raw ++ b) 0).take ((((partsW (f.raw ++ b) 0).length : Nat) : Int) - 1).toNat = (fedF (f.raw ++ b)) := (by unfold fedF; rw [if_pos h1]; congr 1; omega)
      rw [te13] at s12
      try rw [te13]
      refine ⟨(a10, c10, M9), ⟨⟨rfl, rfl, rfl, trivial⟩, rfl⟩, ?_⟩
      · skip
        refine ⟨st, s12, s9, lb2, mb2, lb4, mb4⟩
    · skip
      try simp only [Bool.and_eq_true, Bool.or_eq_true, Bool.not_eq_true', decide_eq_true_eq, decide_eq_false_iff_not, Bool.or_eq_false_iff, Bool.and_eq_false_iff, Bool.not_eq_false'] at h1
      refine x_skip ?_
      have te14 : partsW (f.raw ++ b) 0 = (fedF (f.raw ++ b)) := (by unfold fedF; rw [if_neg h1])
      rw [te14] at s10
      try rw [te14]
      refine ⟨(a10, c10, M9), ⟨⟨rfl, rfl, rfl, trivial⟩, rfl⟩, ?_⟩
      · skip
        refine ⟨st, s10, s9, lb2, mb2, lb4, mb4⟩
  · skip
    rintro ⟨aL5, cL5, M_⟩ h' ⟨st, sL5, s9, lb2, mb2, lb4, mb4⟩
    show X _ _ _ _ (_ :: _) _ _
    have nsL5 := sL5.ll
    refine x_seq ?_
    refine x_seq ?_
    refine x_region ?_
    refine r1 rfl (p_fld runUnderlying35 rfl sizeOf3 (by decide) rfl rfl) ?_
    refine r1 rfl (p_ld isAgg3 rfl (lb2.get rfl)) ?_
    refine r1 rfl (p_as rfl) ?_
    refine o_nil ?_
    refine x_block ?_
    have hfl : (fedF (f.raw ++ b)).length ≤ (f.raw ++ b).length := by
      have := parts_len (s := f.raw ++ b) 0
      unfold fedF; split
      · rw [List.length_take]; omega
      · exact this
    rw [List.length_append] at hfl
    refine x_loope (σ := Nat × (List Int) × (Option Addr) × Nat × (Nat → Prop)) (fun st_ E0 => match st_ with | (i, G, aLb2_5, cLb2_5, M_) => (6, .int .i64 (f.parts + i)) :: E0) [(2, _), (4, _), (5, _)] (fun st_ h' => match st_ with | (i, G, aLb2_5, cLb2_5, M_) => St N h (fun _ => False) M_ h' ∧ Sl r32 M_ h' aLb2_5 cLb2_5 G ∧ Sl rGotT M_ h' aL5 cL5 (fedF (f.raw ++ b)) ∧ Sl r8 M_ h' a7 c7 (f.raw ++ b) ∧ Bl h' b2 [.slice a_f_p_l f.p.l.length c_f_p_l, .int .i64 f.p.at_.row, .int .i64 f.p.at_.col, .bool f.p.at_.pend, .bool f.p.auto, .slice aLb2_5 G.length cLb2_5, .slice a7 (f.raw ++ b).length c7, .int .i64 f.parts] 35 ∧ M_ b2 ∧ Bl h' b4 [.slice none 0 0, .int .i64 0, .int .i64 0, .bool false, .bool false, .slice none 0 0, .slice none 0 0, .int .i64 0] 35 ∧ M_ b4 ∧ (i ≤ (fedF (f.raw ++ b)).length - f.parts.toNat) ∧ (G = f.group ++ (((fedF (f.raw ++ b)).drop f.parts.toNat).take i).map GotT.r)) (fun st_ => match st_ with | (i, G, aLb2_5, cLb2_5, M_) => (fedF (f.raw ++ b)).length - f.parts.toNat - i) (0, f.group, a_f_group, c_f_group, M_) ⟨⟨(congrArg (fun z => some (Value.int .i64 z)) (Int.add_zero _).symm), rfl, rfl, rfl, trivial⟩, rfl⟩ ?_ ?_
    · skip
      refine ⟨st, (s_f_group.gr st.gr), sL5, s9, lb2, mb2, lb4, mb4, ?_, ?_⟩
      · omega
      · simp
    rintro ⟨i, G, aLb2_5, cLb2_5, M_⟩ h' ⟨st, sLb2_5, sL5, s9, lb2, mb2, lb4, mb4, hi0, hi1⟩
    show X _ _ _ _ (_ :: _) _ _
    have nsLb2_5 := sLb2_5.ll
    have hgl : G.length ≤ f.group.length + i := by rw [hi1]; simp; omega
    refine x_seq ?_
    refine x_seq ?_
    refine x_region ?_
    refine r1 rfl (p_mv rfl) ?_
    refine r1 rfl (p_mv rfl) ?_
    refine r1 rfl (p_len runUnderlying53 rfl) ?_
    refine r1 rfl (p_lss rfl rfl) ?_
    refine o_nil ?_
    refine x_cond rfl (fun hc => ?_) (fun hc => ?_)
    · skip
      try simp only [Bool.and_eq_true, Bool.or_eq_true, Bool.not_eq_true', decide_eq_true_eq, decide_eq_false_iff_not, Bool.or_eq_false_iff, Bool.and_eq_false_iff, Bool.not_eq_false'] at hc
      have hlt : f.parts.toNat + i < (fedF (f.raw ++ b)).length := by omega
      refine x_skip ?_
      refine x_cute (σ := (Option Addr) × Nat × (Nat → Prop)) (fun st_ E0 => match st_ with | (aLb2_5, cLb2_5, M_) => E0) [(2, .pointer (some ⟨b2, 0, none⟩)), (4, .pointer (some ⟨b4, 0, none⟩)), (5, .slice aL5 (fedF (f.raw ++ b)).length cL5), (6, .int .i64 (f.parts + i))] (fun st_ h' => match st_ with | (aLb2_5, cLb2_5, M_) => St N h (fun _ => False) M_ h' ∧ Sl r32 M_ h' aLb2_5 cLb2_5 (G ++ [(gt (fedF (f.raw ++ b)) (f.parts + i)).r]) ∧ Sl rGotT M_ h' aL5 cL5 (fedF (f.raw ++ b)) ∧ Sl r8 M_ h' a7 c7 (f.raw ++ b) ∧ Bl h' b2 [.slice a_f_p_l f.p.l.length c_f_p_l, .int .i64 f.p.at_.row, .int .i64 f.p.at_.col, .bool f.p.at_.pend, .bool f.p.auto, .slice aLb2_5 (G ++ [(gt (fedF (f.raw ++ b)) (f.parts + i)).r]).length cLb2_5, .slice a7 (f.raw ++ b).length c7, .int .i64 f.parts] 35 ∧ M_ b2 ∧ Bl h' b4 [.slice none 0 0, .int .i64 0, .int .i64 0, .bool false, .bool false, .slice none 0 0, .slice none 0 0, .int .i64 0] 35 ∧ M_ b4) ?_ ?_
      · skip
        refine x_block ?_
        refine x_regdt 11 (fun hq => Ext h' hq) (by kernel_rfl) ⟨by kernel_rfl, by kernel_rfl, by kernel_rfl, by kernel_rfl⟩ ?_
        intro tl
        have xd := Ext.refl h'
        refine e_take 1 tl rfl rfl (by kernel_rfl) (by kernel_rfl) rfl xd (fun hq xq => p_fld runUnderlying35 rfl sizeOf32 (by decide) rfl rfl) ?_
        refine e_take 2 tl rfl rfl (by kernel_rfl) (by kernel_rfl) rfl xd (fun hq xq => p_ld isAgg32 rfl ((lb2.lift xq).get rfl)) ?_
        refine e_take 4 tl rfl rfl (by kernel_rfl) (by kernel_rfl) rfl xd (fun hq xq => p_mv rfl) ?_
        refine e_take 5 tl rfl rfl (by kernel_rfl) (by kernel_rfl) rfl xd (fun hq xq => p_mv rfl) ?_
        refine e_take 6 tl rfl rfl (by kernel_rfl) (by kernel_rfl) rfl xd (fun hq xq => p_idx runUnderlying53 sizeOf56 rfl rfl (by omega) (sL5.isi (i := f.parts + i) (by omega))) ?_
        refine e_take 7 tl rfl rfl (by kernel_rfl) (by kernel_rfl) rfl xd (fun hq xq => p_fld runUnderlying56 rfl sizeOf21 (by decide) rfl rfl) ?_
        obtain ⟨cs16, R16, C16⟩ := sL5.at_ (f.parts + i) (by omega)
        obtain ⟨rfl, p16_0, p16_1, p16_2, p16_3⟩ := R16
        refine e_take 8 tl rfl rfl (by kernel_rfl) (by kernel_rfl) rfl xd (fun hq xq => p_ld isAgg21 rfl ((C16.ext xq) 0 _ rfl)) ?_
        refine e_two 0 9 (by kernel_rfl) ?_ ?_
        · skip
          refine es_one 0 rfl rfl rfl (s_bs0 runUnderlying32 sizeOf21 ?_)
          intro bb17 hb17 n17
          have sL5 := sL5.gr (.ext n17.ext)
          have sLb2_5 := sLb2_5.gr (.ext n17.ext)
          have s9 := s9.gr (.ext n17.ext)
          have lb2 := lb2.lift (n17.ext)
          have lb4 := lb4.lift (n17.ext)
          have st := st.ext n17.ext
          have xd := xd.trans (n17.ext)
          have s17 : Ow h.size 21 r32 M_ hb17 (some ⟨bb17, 0, none⟩) 0 [] := .nil
          have nos17_b2 : ¬ Ob (some ⟨bb17, 0, none⟩) 0 b2 := fun hh => by have := hh.1; omega
          have nos17_b4 : ¬ Ob (some ⟨bb17, 0, none⟩) 0 b4 := fun hh => by have := hh.1; omega
          refine ⟨xd, ?_⟩
          refine e_two 3 9 (by kernel_rfl) ?_ ?_
          · skip
            refine es_one 3 rfl rfl rfl (s_app runUnderlying32 runUnderlying32 sizeOf21 typeInfo21 zeroValue21 rfl rfl rfl rfl rfl rfl s17 sLb2_5 (Nat.le_trans st.kp.size (Nat.le_refl _)) (by first | omega | (simp only [List.length_append, List.length_cons, List.length_nil]; omega)) ?_)
            intro a19 c19 hp19 ap19 wf19
            obtain ⟨M19, am19⟩ := am ap19 s17.mem
            have now19_b2 : ¬ Ob a19 c19 b2 := fun hh => nos17_b2 (ap19.old _ lb2.lt hh)
            have now19_b4 : ¬ Ob a19 c19 b4 := fun hh => nos17_b4 (ap19.old _ lb4.lt hh)
            have w19_ := wf19 M19 am19
            have sL5 := sL5.gr (am19.gr ap19 s17.mem)
            have sLb2_5 := sLb2_5.gr (am19.gr ap19 s17.mem)
            have s9 := s9.gr (am19.gr ap19 s17.mem)
            have lb2 := ap19.kp.bl nos17_b2 lb2
            have mb2 := am19.sub _ mb2
            have lb4 := ap19.kp.bl nos17_b4 lb4
            have mb4 := am19.sub _ mb4
            have st := st.app ap19 am19 (fun b hb => .inl (s17.ge b hb))
            have nd19 : ∀ k, k < h'.size → ¬ Ob a19 c19 k := fun k hk hh => (fun _ _ hh => by have := hh.1; omega) k hk (ap19.old k (Nat.lt_of_lt_of_le hk (Kp.size xd)) hh)
            have xd := Kp.own xd ap19.kp (fun k hk hh => (fun _ _ hh => by have := hh.1; omega) k hk hh)
            have w19 := w19_
            replace w19 : Ow h.size 21 r32 M19 hp19 a19 c19 G := w19
            refine ⟨xd, ?_⟩
            refine e_one 9 (by kernel_rfl) rfl rfl rfl (s_bs runUnderlying32 sizeOf21 zeroValue21 rfl rfl rfl rfl rfl ?_)
            intro bb20 hb20 n20
            have nmb20 : ¬ M19 bb20 := fun hh => by have := st.lt _ hh; have := n20.at_; omega
            have sL5 := sL5.gr (.ext n20.ext)
            have w19 := w19.ext n20.ext
            have sLb2_5 := sLb2_5.gr (.ext n20.ext)
            have s9 := s9.gr (.ext n20.ext)
            have lb2 := lb2.lift (n20.ext)
            have lb4 := lb4.lift (n20.ext)
            have st := st.ext n20.ext
            have xd := xd.trans (n20.ext)
            have s20 : Sl r32 M19 hb20 (some ⟨bb20, 0, none⟩) 1 ([(gt (fedF (f.raw ++ b)) (f.parts + i)).r] : List Int) := n20.sl nmb20 rfl (els_cons (by exact ⟨rfl, p16_0⟩) els_nil)
            refine ⟨xd, ?_⟩
            refine e_one 10 (by kernel_rfl) rfl rfl rfl (s_app runUnderlying32 runUnderlying32 sizeOf21 typeInfo21 zeroValue21 rfl rfl rfl rfl rfl rfl w19 s20 (Nat.le_trans st.kp.size (Nat.le_refl _)) (by first | omega | (simp only [List.length_append, List.length_cons, List.length_nil]; omega)) ?_)
            intro a22 c22 hp22 ap22 wf22
            obtain ⟨M22, am22⟩ := am ap22 w19.mem
            have now22_b2 : ¬ Ob a22 c22 b2 := fun hh => now19_b2 (ap22.old _ lb2.lt hh)
            have now22_b4 : ¬ Ob a22 c22 b4 := fun hh => now19_b4 (ap22.old _ lb4.lt hh)
            have w22_ := wf22 M22 am22
            have sL5 := sL5.gr (am22.gr ap22 w19.mem)
            have sLb2_5 := sLb2_5.gr (am22.gr ap22 w19.mem)
            have s9 := s9.gr (am22.gr ap22 w19.mem)
            have lb2 := ap22.kp.bl now19_b2 lb2
            have mb2 := am22.sub _ mb2
            have lb4 := ap22.kp.bl now19_b4 lb4
            have mb4 := am22.sub _ mb4
            have st := st.app ap22 am22 (fun b hb => .inl (w19.ge b hb))
            have nd22 : ∀ k, k < h'.size → ¬ Ob a22 c22 k := fun k hk hh => nd19 k hk (ap22.old k (Nat.lt_of_lt_of_le hk (Kp.size xd)) hh)
            have xd := Kp.own xd ap22.kp (fun k hk hh => nd19 k hk hh)
            have w22 := w22_
            refine ⟨xd, ?_⟩
            refine e_end (by kernel_rfl) ?_
            refine r1 rfl (p_fld runUnderlying35 rfl sizeOf32 (by decide) rfl rfl) ?_
            refine o0 (s_sto sizeOf32 rfl rfl rfl lb2 rfl ?_)
            intro hu23 u23
            have sL5 := sL5.gr (.upd u23 mb2)
            have w22 := w22.upd u23 mb2 now22_b2
            have s9 := s9.gr (.upd u23 mb2)
            have lb2 := u23.bl
            have lb4 := u23.kp.bl neb4_b2 lb4
            have st := st.upd u23 (.inl gb2)
            replace lb2 : Bl hu23 b2 [_, _, _, _, _, _, _, _] _ := lb2
            refine o_nil ?_
            obtain ⟨M24, fz24, st24, s24⟩ := w22.fz st hN
            have sL5 := sL5.mono fz24.sub
            have s9 := s9.mono fz24.sub
            have mb2 := fz24.keep _ mb2 now22_b2
            have mb4 := fz24.keep _ mb4 now22_b4
            have st := st24
            refine ⟨(a22, c22, M24), ⟨⟨rfl, rfl, rfl, rfl, trivial⟩, rfl⟩, ?_⟩
            · skip
              refine ⟨st, s24, sL5, s9, lb2, mb2, lb4, mb4⟩
              
          · skip
            refine es_one 9 rfl rfl rfl (s_bs runUnderlying32 sizeOf21 zeroValue21 rfl rfl rfl rfl rfl ?_)
            intro bb25 hb25 n25
            have nmb25 : ¬ M_ bb25 := fun hh => by have := st.lt _ hh; have := n25.at_; omega
            have sL5 := sL5.gr (.ext n25.ext)
            have sLb2_5 := sLb2_5.gr (.ext n25.ext)
            have s17 := s17.ext n25.ext
            have s9 := s9.gr (.ext n25.ext)
            have lb2 := lb2.lift (n25.ext)
            have lb4 := lb4.lift (n25.ext)
            have st := st.ext n25.ext
            have xd := xd.trans (n25.ext)
            have s25 : Sl r32 M_ hb25 (some ⟨bb25, 0, none⟩) 1 ([(gt (fedF (f.raw ++ b)) (f.parts + i)).r] : List Int) := n25.sl nmb25 rfl (els_cons (by exact ⟨rfl, p16_0⟩) els_nil)
            refine ⟨xd, ?_⟩
            refine e_one 3 (by kernel_rfl) rfl rfl rfl (s_app runUnderlying32 runUnderlying32 sizeOf21 typeInfo21 zeroValue21 rfl rfl rfl rfl rfl rfl s17 sLb2_5 (Nat.le_trans st.kp.size (Nat.le_refl _)) (by first | omega | (simp only [List.length_append, List.length_cons, List.length_nil]; omega)) ?_)
            intro a27 c27 hp27 ap27 wf27
            obtain ⟨M27, am27⟩ := am ap27 s17.mem
            have now27_b2 : ¬ Ob a27 c27 b2 := fun hh => nos17_b2 (ap27.old _ lb2.lt hh)
            have now27_b4 : ¬ Ob a27 c27 b4 := fun hh => nos17_b4 (ap27.old _ lb4.lt hh)
            have w27_ := wf27 M27 am27
            have sL5 := sL5.gr (am27.gr ap27 s17.mem)
            have s25 := s25.gr (am27.gr ap27 s17.mem)
            have sLb2_5 := sLb2_5.gr (am27.gr ap27 s17.mem)
            have s9 := s9.gr (am27.gr ap27 s17.mem)
            have lb2 := ap27.kp.bl nos17_b2 lb2
            have mb2 := am27.sub _ mb2
            have lb4 := ap27.kp.bl nos17_b4 lb4
            have mb4 := am27.sub _ mb4
            have st := st.app ap27 am27 (fun b hb => .inl (s17.ge b hb))
            have nd27 : ∀ k, k < h'.size → ¬ Ob a27 c27 k := fun k hk hh => (fun _ _ hh => by have := hh.1; omega) k hk (ap27.old k (Nat.lt_of_lt_of_le hk (Kp.size xd)) hh)
            have xd := Kp.own xd ap27.kp (fun k hk hh => (fun _ _ hh => by have := hh.1; omega) k hk hh)
            have w27 := w27_
            replace w27 : Ow h.size 21 r32 M27 hp27 a27 c27 G := w27
            refine ⟨xd, ?_⟩
            refine e_one 10 (by kernel_rfl) rfl rfl rfl (s_app runUnderlying32 runUnderlying32 sizeOf21 typeInfo21 zeroValue21 rfl rfl rfl rfl rfl rfl w27 s25 (Nat.le_trans st.kp.size (Nat.le_refl _)) (by first | omega | (simp only [List.length_append, List.length_cons, List.length_nil]; omega)) ?_)
            intro a29 c29 hp29 ap29 wf29
            obtain ⟨M29, am29⟩ := am ap29 w27.mem
            have now29_b2 : ¬ Ob a29 c29 b2 := fun hh => now27_b2 (ap29.old _ lb2.lt hh)
            have now29_b4 : ¬ Ob a29 c29 b4 := fun hh => now27_b4 (ap29.old _ lb4.lt hh)
            have w29_ := wf29 M29 am29
            have sL5 := sL5.gr (am29.gr ap29 w27.mem)
            have sLb2_5 := sLb2_5.gr (am29.gr ap29 w27.mem)
            have s9 := s9.gr (am29.gr ap29 w27.mem)
            have lb2 := ap29.kp.bl now27_b2 lb2
            have mb2 := am29.sub _ mb2
            have lb4 := ap29.kp.bl now27_b4 lb4
            have mb4 := am29.sub _ mb4
            have st := st.app ap29 am29 (fun b hb => .inl (w27.ge b hb))
            have nd29 : ∀ k, k < h'.size → ¬ Ob a29 c29 k := fun k hk hh => nd27 k hk (ap29.old k (Nat.lt_of_lt_of_le hk (Kp.size xd)) hh)
            have xd := Kp.own xd ap29.kp (fun k hk hh => nd27 k hk hh)
            have w29 := w29_
            refine ⟨xd, ?_⟩
            refine e_end (by kernel_rfl) ?_
            refine r1 rfl (p_fld runUnderlying35 rfl sizeOf32 (by decide) rfl rfl) ?_
            refine o0 (s_sto sizeOf32 rfl rfl rfl lb2 rfl ?_)
            intro hu30 u30
            have sL5 := sL5.gr (.upd u30 mb2)
            have w29 := w29.upd u30 mb2 now29_b2
            have s9 := s9.gr (.upd u30 mb2)
            have lb2 := u30.bl
            have lb4 := u30.kp.bl neb4_b2 lb4
            have st := st.upd u30 (.inl gb2)
            replace lb2 : Bl hu30 b2 [_, _, _, _, _, _, _, _] _ := lb2
            refine o_nil ?_
            obtain ⟨M31, fz31, st31, s31⟩ := w29.fz st hN
            have sL5 := sL5.mono fz31.sub
            have s9 := s9.mono fz31.sub
            have mb2 := fz31.keep _ mb2 now29_b2
            have mb4 := fz31.keep _ mb4 now29_b4
            have st := st31
            refine ⟨(a29, c29, M31), ⟨⟨rfl, rfl, rfl, rfl, trivial⟩, rfl⟩, ?_⟩
            · skip
              refine ⟨st, s31, sL5, s9, lb2, mb2, lb4, mb4⟩
              
        · skip
          refine es_one 9 rfl rfl rfl (s_bs runUnderlying32 sizeOf21 zeroValue21 rfl rfl rfl rfl rfl ?_)
          intro bb32 hb32 n32
          have nmb32 : ¬ M_ bb32 := fun hh => by have := st.lt _ hh; have := n32.at_; omega
          have sL5 := sL5.gr (.ext n32.ext)
          have sLb2_5 := sLb2_5.gr (.ext n32.ext)
          have s9 := s9.gr (.ext n32.ext)
          have lb2 := lb2.lift (n32.ext)
          have lb4 := lb4.lift (n32.ext)
          have st := st.ext n32.ext
          have xd := xd.trans (n32.ext)
          have s32 : Sl r32 M_ hb32 (some ⟨bb32, 0, none⟩) 1 ([(gt (fedF (f.raw ++ b)) (f.parts + i)).r] : List Int) := n32.sl nmb32 rfl (els_cons (by exact ⟨rfl, p16_0⟩) els_nil)
          refine ⟨xd, ?_⟩
          refine e_one 0 (by kernel_rfl) rfl rfl rfl (s_bs0 runUnderlying32 sizeOf21 ?_)
          intro bb33 hb33 n33
          have sL5 := sL5.gr (.ext n33.ext)
          have sLb2_5 := sLb2_5.gr (.ext n33.ext)
          have s32 := s32.gr (.ext n33.ext)
          have s9 := s9.gr (.ext n33.ext)
          have lb2 := lb2.lift (n33.ext)
          have lb4 := lb4.lift (n33.ext)
          have st := st.ext n33.ext
          have xd := xd.trans (n33.ext)
          have s33 : Ow h.size 21 r32 M_ hb33 (some ⟨bb33, 0, none⟩) 0 [] := .nil
          have nos33_b2 : ¬ Ob (some ⟨bb33, 0, none⟩) 0 b2 := fun hh => by have := hh.1; omega
          have nos33_b4 : ¬ Ob (some ⟨bb33, 0, none⟩) 0 b4 := fun hh => by have := hh.1; omega
          refine ⟨xd, ?_⟩
          refine e_one 3 (by kernel_rfl) rfl rfl rfl (s_app runUnderlying32 runUnderlying32 sizeOf21 typeInfo21 zeroValue21 rfl rfl rfl rfl rfl rfl s33 sLb2_5 (Nat.le_trans st.kp.size (Nat.le_refl _)) (by first | omega | (simp only [List.length_append, List.length_cons, List.length_nil]; omega)) ?_)
          intro a35 c35 hp35 ap35 wf35
          obtain ⟨M35, am35⟩ := am ap35 s33.mem
          have now35_b2 : ¬ Ob a35 c35 b2 := fun hh => nos33_b2 (ap35.old _ lb2.lt hh)
          have now35_b4 : ¬ Ob a35 c35 b4 := fun hh => nos33_b4 (ap35.old _ lb4.lt hh)
          have w35_ := wf35 M35 am35
          have sL5 := sL5.gr (am35.gr ap35 s33.mem)
          have s32 := s32.gr (am35.gr ap35 s33.mem)
          have sLb2_5 := sLb2_5.gr (am35.gr ap35 s33.mem)
          have s9 := s9.gr (am35.gr ap35 s33.mem)
          have lb2 := ap35.kp.bl nos33_b2 lb2
          have mb2 := am35.sub _ mb2
          have lb4 := ap35.kp.bl nos33_b4 lb4
          have mb4 := am35.sub _ mb4
          have st := st.app ap35 am35 (fun b hb => .inl (s33.ge b hb))
          have nd35 : ∀ k, k < h'.size → ¬ Ob a35 c35 k := fun k hk hh => (fun _ _ hh => by have := hh.1; omega) k hk (ap35.old k (Nat.lt_of_lt_of_le hk (Kp.size xd)) hh)
          have xd := Kp.own xd ap35.kp (fun k hk hh => (fun _ _ hh => by have := hh.1; omega) k hk hh)
          have w35 := w35_
          replace w35 : Ow h.size 21 r32 M35 hp35 a35 c35 G := w35
          refine ⟨xd, ?_⟩
          refine e_one 10 (by kernel_rfl) rfl rfl rfl (s_app runUnderlying32 runUnderlying32 sizeOf21 typeInfo21 zeroValue21 rfl rfl rfl rfl rfl rfl w35 s32 (Nat.le_trans st.kp.size (Nat.le_refl _)) (by first | omega | (simp only [List.length_append, List.length_cons, List.length_nil]; omega)) ?_)
          intro a37 c37 hp37 ap37 wf37
          obtain ⟨M37, am37⟩ := am ap37 w35.mem
          have now37_b2 : ¬ Ob a37 c37 b2 := fun hh => now35_b2 (ap37.old _ lb2.lt hh)
          have now37_b4 : ¬ Ob a37 c37 b4 := fun hh => now35_b4 (ap37.old _ lb4.lt hh)
          have w37_ := wf37 M37 am37
          have sL5 := sL5.gr (am37.gr ap37 w35.mem)
          have sLb2_5 := sLb2_5.gr (am37.gr ap37 w35.mem)
          have s9 := s9.gr (am37.gr ap37 w35.mem)
          have lb2 := ap37.kp.bl now35_b2 lb2
          have mb2 := am37.sub _ mb2
          have lb4 := ap37.kp.bl now35_b4 lb4
          have mb4 := am37.sub _ mb4
          have st := st.app ap37 am37 (fun b hb => .inl (w35.ge b hb))
          have nd37 : ∀ k, k < h'.size → ¬ Ob a37 c37 k := fun k hk hh => nd35 k hk (ap37.old k (Nat.lt_of_lt_of_le hk (Kp.size xd)) hh)
          have xd := Kp.own xd ap37.kp (fun k hk hh => nd35 k hk hh)
          have w37 := w37_
          refine ⟨xd, ?_⟩
          refine e_end (by kernel_rfl) ?_
          refine r1 rfl (p_fld runUnderlying35 rfl sizeOf32 (by decide) rfl rfl) ?_
          refine o0 (s_sto sizeOf32 rfl rfl rfl lb2 rfl ?_)
          intro hu38 u38
          have sL5 := sL5.gr (.upd u38 mb2)
          have w37 := w37.upd u38 mb2 now37_b2
          have s9 := s9.gr (.upd u38 mb2)
          have lb2 := u38.bl
          have lb4 := u38.kp.bl neb4_b2 lb4
          have st := st.upd u38 (.inl gb2)
          replace lb2 : Bl hu38 b2 [_, _, _, _, _, _, _, _] _ := lb2
          refine o_nil ?_
          obtain ⟨M39, fz39, st39, s39⟩ := w37.fz st hN
          have sL5 := sL5.mono fz39.sub
          have s9 := s9.mono fz39.sub
          have mb2 := fz39.keep _ mb2 now37_b2
          have mb4 := fz39.keep _ mb4 now37_b4
          have st := st39
          refine ⟨(a37, c37, M39), ⟨⟨rfl, rfl, rfl, rfl, trivial⟩, rfl⟩, ?_⟩
          · skip
            refine ⟨st, s39, sL5, s9, lb2, mb2, lb4, mb4⟩
            
      · skip
        rintro ⟨aLb2_5, cLb2_5, M_⟩ h' ⟨st, sLb2_5, sL5, s9, lb2, mb2, lb4, mb4⟩
        dsimp only
        have nsLb2_5 := sLb2_5.ll
        refine x_region ?_
        refine r1 rfl (p_mv rfl) ?_
        refine r1 rfl (p_add64 rfl rfl (by omega)) ?_
        refine r1 rfl (p_as rfl) ?_
        refine o_nil ?_
        refine ⟨(i + 1, G ++ [(gt (fedF (f.raw ++ b)) (f.parts + i)).r], aLb2_5, cLb2_5, M_), ⟨⟨(congrArg (fun z => some (Value.int .i64 z)) (by omega)), rfl, rfl, rfl, trivial⟩, rfl⟩, ?_, ?_⟩
        · skip
          refine ⟨st, sLb2_5, sL5, s9, lb2, mb2, lb4, mb4, ?_, ?_⟩
          · omega
          · rw [hi1, drop_take_succ hlt, List.map_append, List.append_assoc, show ((f.parts.toNat : Int) + i) = f.parts + i by omega]
            rfl
        · (try dsimp only); omega
    · skip
      try simp only [Bool.and_eq_true, Bool.or_eq_true, Bool.not_eq_true', decide_eq_true_eq, decide_eq_false_iff_not, Bool.or_eq_false_iff, Bool.and_eq_false_iff, Bool.not_eq_false'] at hc
      have hG : G = f.group ++ ((fedF (f.raw ++ b)).drop f.parts.toNat).map GotT.r := by
        rw [hi1, List.take_of_length_le (by rw [List.length_drop]; omega)]
      refine x_exit ?_
      refine x_seq ?_
      refine x_region ?_
      refine r1 rfl (p_mv rfl) ?_
      refine r1 rfl (p_len runUnderlying53 rfl) ?_
      refine r1 rfl (p_fld runUnderlying35 rfl sizeOf3 (by decide) rfl rfl) ?_
      refine o0 (s_sto sizeOf3 rfl rfl rfl lb2 rfl ?_)
      intro hu40 u40
      have sLb2_5 := sLb2_5.gr (.upd u40 mb2)
      have s9 := s9.gr (.upd u40 mb2)
      have lb2 := u40.bl
      have lb4 := u40.kp.bl neb4_b2 lb4
      have st := st.upd u40 (.inl gb2)
      replace lb2 : Bl hu40 b2 [_, _, _, _, _, _, _, _] _ := lb2
      refine o_nil ?_
      refine x_seq ?_
      refine x_region ?_
      refine r1 rfl (p_lda isAgg35 rfl (lb2.gets rfl) sizeOf35) ?_
      refine o0 (s_sta rfl rfl sizeOf35 rfl lb4 rfl ?_)
      intro hu41 u41
      have sLb2_5 := sLb2_5.gr (.upd u41 mb4)
      have s9 := s9.gr (.upd u41 mb4)
      have lb2 := u41.kp.bl (Ne.symm neb4_b2) lb2
      have lb4 := u41.bl
      have st := st.upd u41 (.inl gb4)
      replace lb4 : Bl hu41 b4 [_, _, _, _, _, _, _, _] _ := lb4
      refine o_nil ?_
      refine x_ret (fin1 (ret_cell isAgg35 rfl (lb4.gets rfl) sizeOf35) ?_)
      subst hG
      have hpb : B64 ((fedF (f.raw ++ b)).length : Int) := by omega
      exact ⟨_, _, _, _, _, _, rfl, ((s_f_p_l.gr st.gr).out st), p_f_p_at__row, p_f_p_at__col, (sLb2_5.out st), (s9.out st), (by first | omega | assumption | (dsimp only; omega)), st.x⟩
end Go.Proofs
