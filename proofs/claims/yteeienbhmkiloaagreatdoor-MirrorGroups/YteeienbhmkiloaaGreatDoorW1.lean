import Derived.Test.YteeienbhmkiloaaGreatDoorLU
import Derived.Test.YteeienbhmkiloaaGreatDoorChecked
set_option linter.unusedSimpArgs false
set_option linter.unusedVariables false
namespace Go.Proofs
open Go.Lx Tryz

theorem _root_.Go.Lx.Sl.bnd {k : IntKind} {B : Int → Prop} {M : Nat → Prop} {h : Hp} {a : Option Addr} {cap : Nat} {l : List Int} (s : Sl (rI k B) M h a cap l) : ∀ x ∈ l, B x := by
  intro x hx
  obtain ⟨i, hi⟩ := List.getElem?_of_mem hx
  obtain ⟨cs, ⟨_, hb⟩, _⟩ := s.el i x hi
  exact hb
theorem gt_nat {l : List Int} {k : Nat} (hk : k < l.length) : gt l (k : Int) = l[k] := gt_lt hk
theorem gtB {l : List Int} {B : Int → Prop} (h : ∀ x ∈ l, B x) (h0 : B 0) (i : Int) : B (gt l i) := by
  unfold gt
  by_cases hi : i.toNat < l.length
  · rw [List.getD_eq_getElem?_getD, List.getElem?_eq_getElem hi]; exact h _ (List.getElem_mem hi)
  · rw [List.getD_eq_getElem?_getD, List.getElem?_eq_none (by omega)]; exact h0
theorem take_succ_eq {α : Type} [Inhabited α] {a b : List α} {i : Nat} (ha : i < a.length) (hb : i < b.length) (h : a.take i = b.take i) (hg : gt a (i : Int) = gt b (i : Int)) : a.take (i + 1) = b.take (i + 1) := by
  rw [List.take_succ_eq_append_getElem ha, List.take_succ_eq_append_getElem hb, h]
  rw [gt_lt ha, gt_lt hb] at hg
  rw [hg]

def valid (r : Int) : Bool := (decide (0 ≤ r) && decide (r ≤ 1114111)) && (decide (r < 55296) || decide (57343 < r))
theorem c_01Valid (N : Nat → Prop) (h : Hp) (hN : ∀ b, N b → b < h.size) (r : Int)   : C prog 20 [.int .i32 r] h (fun v h' => v = .bool (valid r) ∧ Ext h h') := by
  have st := St.init hN
  refine enter func20 rfl ntmps20 results20 rfl rfl ?_
  refine x_seq ?_
  refine x_region ?_
  refine r1 rfl (p_as rfl) ?_
  refine o_nil ?_
  refine x_seq ?_
  refine x_region ?_
  refine r1 rfl (p_mv rfl) ?_
  refine r1 rfl (p_geq rfl rfl) ?_
  refine r1 rfl (p_mv rfl) ?_
  apply o_and 3 (dj := 5) (d := 8) rfl
  · intro hg1_3
    have hg1_3_ := hg1_3
    try simp only [Bool.and_eq_true, Bool.or_eq_true, Bool.not_eq_true', decide_eq_true_eq, decide_eq_false_iff_not, Bool.or_eq_false_iff, Bool.and_eq_false_iff] at hg1_3_
    refine r1h rfl rfl rfl hg1_3 (p_mv rfl) ?_
    refine r1h rfl rfl rfl hg1_3 (p_leq rfl rfl) ?_
    refine r1 rfl (p_pickt hg1_3 rfl rfl rfl) ?_
    exact o_nil ⟨rfl, rfl, by repeat (first | exact le_r _ | refine le_c rfl ?_)⟩
  · intro hg1_3
    refine o1n rfl rfl rfl hg1_3 ?_
    refine o1n rfl rfl rfl hg1_3 ?_
    refine r1 rfl (p_pickf hg1_3 rfl rfl rfl) ?_
    exact o_nil ⟨rfl, rfl, by repeat (first | exact le_r _ | refine le_c rfl ?_)⟩
  refine r1 rfl (p_mv rfl) ?_
  apply o_and 7 (dj := 9) (d := 16) rfl
  · intro hg1_7
    have hg1_7_ := hg1_7
    try simp only [Bool.and_eq_true, Bool.or_eq_true, Bool.not_eq_true', decide_eq_true_eq, decide_eq_false_iff_not, Bool.or_eq_false_iff, Bool.and_eq_false_iff] at hg1_7_
    refine r1h rfl rfl rfl hg1_7 (p_mv rfl) ?_
    refine r1h rfl rfl rfl hg1_7 (p_lss rfl rfl) ?_
    refine r1h rfl rfl rfl hg1_7 (p_mv rfl) ?_
    apply o_or 3 (dj := 12) (d := 15) rfl
    · intro hg1_10
      have hg1_10_ := hg1_10
      try simp only [Bool.and_eq_true, Bool.or_eq_true, Bool.not_eq_true', decide_eq_true_eq, decide_eq_false_iff_not, Bool.or_eq_false_iff, Bool.and_eq_false_iff] at hg1_10_
      refine r1h rfl rfl rfl hg1_10 (p_mv rfl) ?_
      refine r1h rfl rfl rfl hg1_10 (p_gtr rfl rfl) ?_
      refine r1h rfl rfl rfl hg1_7 (p_pickf hg1_10 rfl rfl rfl) ?_
      exact o_nil ⟨rfl, rfl, by repeat (first | exact le_r _ | refine le_c rfl ?_)⟩
    · intro hg1_10
      refine o1n rfl rfl rfl hg1_10 ?_
      refine o1n rfl rfl rfl hg1_10 ?_
      refine r1h rfl rfl rfl hg1_7 (p_pickt hg1_10 rfl rfl rfl) ?_
      exact o_nil ⟨rfl, rfl, by repeat (first | exact le_r _ | refine le_c rfl ?_)⟩
    refine r1 rfl (p_pickt hg1_7 rfl rfl rfl) ?_
    exact o_nil ⟨rfl, rfl, by repeat (first | exact le_r _ | refine le_c rfl ?_)⟩
  · intro hg1_7
    refine o1n rfl rfl rfl hg1_7 ?_
    refine o1n rfl rfl rfl hg1_7 ?_
    refine o1n rfl rfl rfl hg1_7 ?_
    refine o1u rfl rfl rfl ?_
    refine o1u rfl rfl rfl ?_
    refine o1n rfl rfl rfl hg1_7 ?_
    refine r1 rfl (p_pickf hg1_7 rfl rfl rfl) ?_
    exact o_nil ⟨rfl, rfl, by repeat (first | exact le_r _ | refine le_c rfl ?_)⟩
  refine r1 rfl (p_as rfl) ?_
  refine o_nil ?_
  refine x_ret (fin1 rfl ?_)
  exact ⟨rfl, st.x⟩
theorem c_01Same (N : Nat → Prop) (h : Hp) (hN : ∀ b, N b → b < h.size) (a : List Int) (b : List Int) {a_a : Option Addr} {c_a : Nat} {a_b : Option Addr} {c_b : Nat} (s_a : Sl r32 N h a_a c_a a) (s_b : Sl r32 N h a_b c_b b) : C prog 12 [.slice a_a a.length c_a, .slice a_b b.length c_b] h (fun v h' => v = .bool (decide (a = b)) ∧ Ext h h') := by
  have st := St.init hN
  have ns_a := s_a.ll
  have ns_b := s_b.ll
  refine enter func12 rfl ntmps12 results12 rfl rfl ?_
  refine x_seq ?_
  refine x_region ?_
  refine r1 rfl (p_as rfl) ?_
  refine o_nil ?_
  refine x_seq ?_
  refine x_seq ?_
  refine x_region ?_
  refine r1 rfl (p_mv rfl) ?_
  refine r1 rfl (p_len runUnderlying32 rfl) ?_
  refine r1 rfl (p_mv rfl) ?_
  refine r1 rfl (p_len runUnderlying32 rfl) ?_
  refine r1 rfl (p_neq rfl rfl) ?_
  refine o_nil ?_
  refine x_cond rfl (fun hl => ?_) (fun hl => ?_)
  · skip
    try simp only [Bool.and_eq_true, Bool.or_eq_true, Bool.not_eq_true', decide_eq_true_eq, decide_eq_false_iff_not, Bool.or_eq_false_iff, Bool.and_eq_false_iff, Bool.not_eq_false'] at hl
    refine x_seq ?_
    refine x_region ?_
    refine r1 rfl (p_as rfl) ?_
    refine o_nil ?_
    refine x_ret (fin1 rfl ?_)
    have e : decide (a = b) = false := by simp; intro e; rw [e] at hl; simp at hl
    rw [e]
    exact ⟨rfl, st.x⟩
  · skip
    try simp only [Bool.and_eq_true, Bool.or_eq_true, Bool.not_eq_true', decide_eq_true_eq, decide_eq_false_iff_not, Bool.or_eq_false_iff, Bool.and_eq_false_iff, Bool.not_eq_false'] at hl
    refine x_skip ?_
    refine x_seq ?_
    refine x_seq ?_
    refine x_region ?_
    refine r1 rfl (p_as rfl) ?_
    refine o_nil ?_
    refine x_block ?_
    refine x_loope (σ := Nat × (Nat → Prop)) (fun st_ E0 => match st_ with | (i, M_) => (5, .int .i64 (i : Int)) :: E0) [(0, _), (1, _)] (fun st_ h' => match st_ with | (i, M_) => St N h (fun _ => False) M_ h' ∧ (i ≤ a.length) ∧ (a.take i = b.take i)) (fun st_ => match st_ with | (i, M_) => a.length - i) (0, N) ⟨⟨rfl, rfl, rfl, trivial⟩, rfl⟩ ?_ ?_
    · skip
      refine ⟨st, ?_, ?_⟩
      · first | omega | assumption | (simp; done) | (simp; omega)
      · first | omega | assumption | (simp; done) | (simp; omega)
    rintro ⟨i, M_⟩ h' ⟨st, hi0, hi1⟩
    show X _ _ _ _ (_ :: _) _ _
    refine x_seq ?_
    refine x_seq ?_
    refine x_region ?_
    refine r1 rfl (p_mv rfl) ?_
    refine r1 rfl (p_mv rfl) ?_
    refine r1 rfl (p_len runUnderlying32 rfl) ?_
    refine r1 rfl (p_lss rfl rfl) ?_
    refine o_nil ?_
    refine x_cond rfl (fun hc => ?_) (fun hc => ?_)
    · skip
      try simp only [Bool.and_eq_true, Bool.or_eq_true, Bool.not_eq_true', decide_eq_true_eq, decide_eq_false_iff_not, Bool.or_eq_false_iff, Bool.and_eq_false_iff, Bool.not_eq_false'] at hc
      refine x_skip ?_
      refine x_seq ?_
      refine x_block ?_
      refine x_seq ?_
      refine x_regt (by kernel_rfl) (by kernel_rfl) ?_
      refine t1 rfl (p_mv rfl) ?_
      refine t1 rfl (p_mv rfl) ?_
      refine t1 rfl (p_idx runUnderlying32 sizeOf21 rfl rfl (by omega) ((s_a.gr st.gr).isi (i := (i : Int)) (by omega))) ?_
      obtain ⟨cs1, R1, C1⟩ := (s_a.gr st.gr).at_ ((i : Int)) (by omega)
      obtain ⟨rfl, p1⟩ := R1
      refine t1 rfl (p_ld isAgg21 rfl (C1 0 _ rfl)) ?_
      refine t1 rfl (p_mv rfl) ?_
      refine t1 rfl (p_mv rfl) ?_
      refine t1 rfl (p_idx runUnderlying32 sizeOf21 rfl rfl (by omega) ((s_b.gr st.gr).isi (i := (i : Int)) (by omega))) ?_
      obtain ⟨cs2, R2, C2⟩ := (s_b.gr st.gr).at_ ((i : Int)) (by omega)
      obtain ⟨rfl, p2⟩ := R2
      refine t1 rfl (p_ld isAgg21 rfl (C2 0 _ rfl)) ?_
      refine t1 rfl (p_neq rfl rfl) ?_
      refine t_nil ?_
      refine x_cond rfl (fun hd => ?_) (fun hd => ?_)
      · skip
        try simp only [Bool.and_eq_true, Bool.or_eq_true, Bool.not_eq_true', decide_eq_true_eq, decide_eq_false_iff_not, Bool.or_eq_false_iff, Bool.and_eq_false_iff, Bool.not_eq_false'] at hd
        refine x_seq ?_
        refine x_region ?_
        refine r1 rfl (p_as rfl) ?_
        refine o_nil ?_
        refine x_ret (fin1 rfl ?_)
        have e : decide (a = b) = false := by simp; intro e; rw [e] at hd; simp at hd
        rw [e]
        exact ⟨rfl, st.x⟩
      · skip
        try simp only [Bool.and_eq_true, Bool.or_eq_true, Bool.not_eq_true', decide_eq_true_eq, decide_eq_false_iff_not, Bool.or_eq_false_iff, Bool.and_eq_false_iff, Bool.not_eq_false'] at hd
        refine x_skip ?_
        refine x_region ?_
        refine r1 rfl (p_mv rfl) ?_
        refine r1 rfl (p_add64 rfl rfl (by omega)) ?_
        refine r1 rfl (p_as rfl) ?_
        refine o_nil ?_
        refine ⟨(i + 1, M_), ⟨⟨rfl, rfl, rfl, trivial⟩, rfl⟩, ?_, ?_⟩
        · skip
          refine ⟨st, ?_, ?_⟩
          · omega
          · simp at hd
            exact take_succ_eq (by omega) (by omega) hi1 hd
        · (try dsimp only); omega
    · skip
      try simp only [Bool.and_eq_true, Bool.or_eq_true, Bool.not_eq_true', decide_eq_true_eq, decide_eq_false_iff_not, Bool.or_eq_false_iff, Bool.and_eq_false_iff, Bool.not_eq_false'] at hc
      refine x_exit ?_
      refine x_seq ?_
      refine x_region ?_
      refine r1 rfl (p_as rfl) ?_
      refine o_nil ?_
      refine x_ret (fin1 rfl ?_)
      have e : decide (a = b) = true := by
        have e1 : i = a.length := by omega
        rw [e1, List.take_length, List.take_of_length_le (by omega)] at hi1
        simpa using hi1
      rw [e]
      exact ⟨rfl, st.x⟩

def marks : List Int := [0, 0, 192, 224, 240]
def sizes : List Int := [0, 128, 32, 16, 8]
def froms : List Int := [0, 0, 128, 2048, 65536]
def tos : List Int := [0, 127, 2047, 65535, 1114111]
/-- The least and the greatest number of which the first bytes, b, are, behind c further ones. -/
def loA (b : List Int) (v : Int) : Nat → Int
  | 0 => v
  | c + 1 => loA b v c * 64 + (if c + 1 < b.length then gt b ((c : Int) + 1) - 128 else 0)
def hiA (b : List Int) (v : Int) : Nat → Int
  | 0 => v
  | c + 1 => hiA b v c * 64 + 63 + (if c + 1 < b.length then gt b ((c : Int) + 1) - 128 - 63 else 0)
def tailOk (b : List Int) : Nat → Bool
  | 0 => true
  | c + 1 => tailOk b c && (decide (b.length ≤ c + 1) || decide (128 ≤ gt b ((c : Int) + 1) ∧ gt b ((c : Int) + 1) ≤ 191))
theorem loA_bd {b : List Int} {v : Int} (hb : ∀ x ∈ b, BU8 x) (hv : -256 ≤ v ∧ v ≤ 256) : ∀ c : Nat, c ≤ 3 → -(256 + 192 * (c : Int)) * 64 ^ c ≤ loA b v c ∧ loA b v c ≤ (256 + 192 * (c : Int)) * 64 ^ c ∧ -(256 + 192 * (c : Int)) * 64 ^ c ≤ hiA b v c ∧ hiA b v c ≤ (256 + 192 * (c : Int)) * 64 ^ c := by
  intro c hc
  have g (i : Int) : BU8 (gt b i) := gtB hb (by decide) i
  match c, hc with
  | 0, _ => simp [loA, hiA]; omega
  | 1, _ =>
    have := g ((0 : Nat) + 1 : Int)
    simp only [loA, hiA]; split <;> omega
  | 2, _ =>
    have := g ((0 : Nat) + 1 : Int); have := g ((1 : Nat) + 1 : Int)
    simp only [loA, hiA]; split <;> split <;> omega
  | 3, _ =>
    have := g ((0 : Nat) + 1 : Int); have := g ((1 : Nat) + 1 : Int); have := g ((2 : Nat) + 1 : Int)
    simp only [loA, hiA]; split <;> split <;> split <;> omega
def someF (b : List Int) (n : Int) : Bool :=
  (decide (0 ≤ gt b 0 - gt marks n) && decide (gt b 0 - gt marks n < gt sizes n)) && tailOk b (n.toNat - 1) &&
    (decide (max (loA b (gt b 0 - gt marks n) (n.toNat - 1)) (gt froms n) ≤ min (hiA b (gt b 0 - gt marks n) (n.toNat - 1)) (gt tos n)) &&
      (decide (max (loA b (gt b 0 - gt marks n) (n.toNat - 1)) (gt froms n) < 55296) || decide (57343 < min (hiA b (gt b 0 - gt marks n) (n.toNat - 1)) (gt tos n))))
theorem c_03some (N : Nat → Prop) (h : Hp) (hN : ∀ b, N b → b < h.size) (b : List Int) (n : Int) {a_b : Option Addr} {c_b : Nat} (s_b : Sl r8 N h a_b c_b b) (hn : 1 ≤ n ∧ n ≤ 4) (hb : 1 ≤ b.length ∧ b.length ≤ 140737488355328) : C prog 53 [.slice a_b b.length c_b, .int .i64 n] h (fun v h' => v = .bool (someF b n) ∧ Ext h h') := by
  have st := St.init hN
  have ns_b := s_b.ll
  have hbd := s_b.bnd
  have hmk : ∀ i : Int, 0 ≤ gt marks i ∧ gt marks i ≤ 255 := fun i => gtB (l := marks) (B := fun x => 0 ≤ x ∧ x ≤ 255) (by decide) (by decide) i
  refine enter func53 rfl ntmps53 results53 rfl rfl ?_
  refine x_seq ?_
  refine x_region ?_
  refine r1 rfl (p_as rfl) ?_
  refine o_nil ?_
  refine x_seq ?_
  refine x_region ?_
  refine o1 rfl (s_bs runUnderlying139 sizeOf3 zeroValue3 rfl rfl rfl rfl rfl ?_)
  intro bb1 hb1 n1
  have nmb1 : ¬ N bb1 := fun hh => by have := st.lt _ hh; have := n1.at_; omega
  have st := st.ext n1.ext
  have s1 : Sl r64 N hb1 (some ⟨bb1, 0, none⟩) 5 ([0, 0, 192, 224, 240] : List Int) := n1.sl nmb1 rfl (els_cons (by exact ⟨rfl, (by omega)⟩) (els_cons (by exact ⟨rfl, (by omega)⟩) (els_cons (by exact ⟨rfl, (by omega)⟩) (els_cons (by exact ⟨rfl, (by omega)⟩) (els_cons (by exact ⟨rfl, (by omega)⟩) els_nil)))))
  refine r1 rfl (p_as rfl) ?_
  refine o_nil ?_
  refine x_seq ?_
  refine x_region ?_
  refine o1 rfl (s_bs runUnderlying139 sizeOf3 zeroValue3 rfl rfl rfl rfl rfl ?_)
  intro bb2 hb2 n2
  have nmb2 : ¬ N bb2 := fun hh => by have := st.lt _ hh; have := n2.at_; omega
  have s1 := s1.gr (.ext n2.ext)
  have st := st.ext n2.ext
  have s2 : Sl r64 N hb2 (some ⟨bb2, 0, none⟩) 5 ([0, 128, 32, 16, 8] : List Int) := n2.sl nmb2 rfl (els_cons (by exact ⟨rfl, (by omega)⟩) (els_cons (by exact ⟨rfl, (by omega)⟩) (els_cons (by exact ⟨rfl, (by omega)⟩) (els_cons (by exact ⟨rfl, (by omega)⟩) (els_cons (by exact ⟨rfl, (by omega)⟩) els_nil)))))
  refine r1 rfl (p_as rfl) ?_
  refine o_nil ?_
  refine x_seq ?_
  replace s1 : Sl r64 N hb2 (some ⟨bb1, 0, none⟩) 5 marks := s1
  replace s2 : Sl r64 N hb2 (some ⟨bb2, 0, none⟩) 5 sizes := s2
  refine x_regt (by kernel_rfl) (by kernel_rfl) ?_
  refine t1 rfl (p_mv rfl) ?_
  refine t1 rfl (p_idx runUnderlying33 sizeOf5 rfl rfl (by omega) ((s_b.gr st.gr).isi (i := 0) (by omega))) ?_
  obtain ⟨cs3, R3, C3⟩ := (s_b.gr st.gr).at_ (0) (by omega)
  obtain ⟨rfl, p3⟩ := R3
  refine t1 rfl (p_ld isAgg5 rfl (C3 0 _ rfl)) ?_
  refine t1 rfl (p_conv runUnderlying5 runUnderlying3 rfl (wrap_i64 (by omega))) ?_
  refine t1 rfl (p_mv rfl) ?_
  refine t1 rfl (p_mv rfl) ?_
  refine t1 rfl (p_idx runUnderlying139 sizeOf3 rfl rfl (by simp [marks]; omega) (s1.isi (i := n) (by simp [marks]; omega))) ?_
  obtain ⟨cs4, R4, C4⟩ := s1.at_ (n) (by simp [marks]; omega)
  obtain ⟨rfl, p4⟩ := R4
  refine t1 rfl (p_ld isAgg3 rfl (C4 0 _ rfl)) ?_
  refine t1 rfl (p_sub64 rfl rfl (by have := hmk n; omega)) ?_
  refine t1 rfl (p_as rfl) ?_
  refine t_nil ?_
  refine x_seq ?_
  refine x_seq ?_
  refine x_region ?_
  refine r1 rfl (p_mv rfl) ?_
  refine r1 rfl (p_lss rfl rfl) ?_
  refine r1 rfl (p_mv rfl) ?_
  apply o_or 7 (dj := 27) (d := 34) rfl
  · intro hg4_3
    have hg4_3_ := hg4_3
    try simp only [Bool.and_eq_true, Bool.or_eq_true, Bool.not_eq_true', decide_eq_true_eq, decide_eq_false_iff_not, Bool.or_eq_false_iff, Bool.and_eq_false_iff] at hg4_3_
    refine r1h rfl rfl rfl hg4_3 (p_mv rfl) ?_
    refine r1h rfl rfl rfl hg4_3 (p_mv rfl) ?_
    refine r1h rfl rfl rfl hg4_3 (p_mv rfl) ?_
    refine r1h rfl rfl rfl hg4_3 (p_idx runUnderlying139 sizeOf3 rfl rfl (by simp [sizes]; omega) (s2.isi (i := n) (by simp [sizes]; omega))) ?_
    obtain ⟨cs5, R5, C5⟩ := s2.at_ (n) (by simp [sizes]; omega)
    obtain ⟨rfl, p5⟩ := R5
    refine r1h rfl rfl rfl hg4_3 (p_ld isAgg3 rfl (C5 0 _ rfl)) ?_
    refine r1h rfl rfl rfl hg4_3 (p_geq rfl rfl) ?_
    refine r1 rfl (p_pickf hg4_3 rfl rfl rfl) ?_
    exact o_nil ⟨rfl, rfl, by repeat (first | exact le_r _ | refine le_c rfl ?_)⟩
  · intro hg4_3
    refine o1n rfl rfl rfl hg4_3 ?_
    refine o1n rfl rfl rfl hg4_3 ?_
    refine o1n rfl rfl rfl hg4_3 ?_
    refine o1n rfl rfl rfl hg4_3 ?_
    refine o1n rfl rfl rfl hg4_3 ?_
    refine o1n rfl rfl rfl hg4_3 ?_
    refine r1 rfl (p_pickt hg4_3 rfl rfl rfl) ?_
    exact o_nil ⟨rfl, rfl, by repeat (first | exact le_r _ | refine le_c rfl ?_)⟩
  refine o_nil ?_
  refine x_cond rfl (fun h1 => ?_) (fun h1 => ?_)
  · skip
    try simp only [Bool.and_eq_true, Bool.or_eq_true, Bool.not_eq_true', decide_eq_true_eq, decide_eq_false_iff_not, Bool.or_eq_false_iff, Bool.and_eq_false_iff, Bool.not_eq_false'] at h1
    refine x_seq ?_
    refine x_region ?_
    refine r1 rfl (p_as rfl) ?_
    refine o_nil ?_
    refine x_ret (fin1 rfl ?_)
    have e : someF b n = false := by
      unfold someF
      have : ¬ (0 ≤ gt b 0 - gt marks n ∧ gt b 0 - gt marks n < gt sizes n) := by omega
      have e2 : (decide (0 ≤ gt b 0 - gt marks n) && decide (gt b 0 - gt marks n < gt sizes n)) = false := by
        rw [Bool.and_eq_false_iff]
        by_cases h0 : 0 ≤ gt b 0 - gt marks n
        · right; simp; omega
        · left; simp; omega
      rw [e2]; rfl
    rw [e]
    exact ⟨rfl, st.x⟩
  · skip
    try simp only [Bool.and_eq_true, Bool.or_eq_true, Bool.not_eq_true', decide_eq_true_eq, decide_eq_false_iff_not, Bool.or_eq_false_iff, Bool.and_eq_false_iff, Bool.not_eq_false'] at h1
    generalize hv : gt b 0 - gt marks n = v at *
    refine x_skip ?_
    refine x_seq ?_
    refine x_region ?_
    refine r1 rfl (p_mv rfl) ?_
    refine r1 rfl (p_mv rfl) ?_
    refine r1 rfl (p_as rfl) ?_
    refine r1 rfl (p_as rfl) ?_
    refine o_nil ?_
    refine x_seq ?_
    refine x_seq ?_
    refine x_region ?_
    refine r1 rfl (p_as rfl) ?_
    refine o_nil ?_
    refine x_block ?_
    refine x_loope (σ := Nat × (Nat → Prop)) (fun st_ E0 => match st_ with | (c, M_) => (10, .int .i64 ((c : Int) + 1)) :: (8, .int .i64 (loA b v c)) :: (9, .int .i64 (hiA b v c)) :: E0) [(0, _), (1, _)] (fun st_ h' => match st_ with | (c, M_) => St N h (fun _ => False) M_ h' ∧ ((c : Int) + 1 ≤ n) ∧ (tailOk b c = true)) (fun st_ => match st_ with | (c, M_) => (n.toNat - c)) (0, N) ⟨⟨rfl, rfl, rfl, rfl, rfl, trivial⟩, rfl⟩ ?_ ?_
    · skip
      refine ⟨st, ?_, ?_⟩
      · omega
      · rfl
    rintro ⟨c, M_⟩ h' ⟨st, hi0, hi1⟩
    show X _ _ _ _ (_ :: _) _ _
    have hv2 : -256 ≤ v ∧ v ≤ 256 := by have := hmk n; have := gtB hbd (B := BU8) (by decide) 0; omega
    have hla := loA_bd (v := v) hbd hv2 c (by omega)
    have hpw : (64 : Int) ^ c ≤ 262144 ∧ 1 ≤ (64 : Int) ^ c := by
      have : c ≤ 3 := by omega
      match c, this with
      | 0, _ => decide
      | 1, _ => decide
      | 2, _ => decide
      | 3, _ => decide
    have hlb : -1000000000 ≤ loA b v c ∧ loA b v c ≤ 1000000000 ∧ -1000000000 ≤ hiA b v c ∧ hiA b v c ≤ 1000000000 := by
      have : c ≤ 3 := by omega
      match c, this, hla with
      | 0, _, hla => omega
      | 1, _, hla => omega
      | 2, _, hla => omega
      | 3, _, hla => omega
    refine x_seq ?_
    refine x_seq ?_
    refine x_region ?_
    refine r1 rfl (p_mv rfl) ?_
    refine r1 rfl (p_mv rfl) ?_
    refine r1 rfl (p_lss rfl rfl) ?_
    refine o_nil ?_
    refine x_cond rfl (fun hc => ?_) (fun hc => ?_)
    · skip
      try simp only [Bool.and_eq_true, Bool.or_eq_true, Bool.not_eq_true', decide_eq_true_eq, decide_eq_false_iff_not, Bool.or_eq_false_iff, Bool.and_eq_false_iff, Bool.not_eq_false'] at hc
      refine x_skip ?_
      refine x_seq ?_
      refine x_block ?_
      refine x_seq ?_
      refine x_region ?_
      refine r1 rfl (p_mv rfl) ?_
      refine r1 rfl (p_mul64 rfl rfl (by omega)) ?_
      refine r1 rfl (p_as rfl) ?_
      refine o_nil ?_
      refine x_seq ?_
      refine x_region ?_
      refine r1 rfl (p_mv rfl) ?_
      refine r1 rfl (p_mul64 rfl rfl (by omega)) ?_
      refine r1 rfl (p_add64 rfl rfl (by omega)) ?_
      refine r1 rfl (p_as rfl) ?_
      refine o_nil ?_
      refine x_seq ?_
      refine x_region ?_
      refine r1 rfl (p_mv rfl) ?_
      refine r1 rfl (p_mv rfl) ?_
      refine r1 rfl (p_len runUnderlying33 rfl) ?_
      refine r1 rfl (p_lss rfl rfl) ?_
      refine o_nil ?_
      refine x_cond rfl (fun hd => ?_) (fun hd => ?_)
      · skip
        try simp only [Bool.and_eq_true, Bool.or_eq_true, Bool.not_eq_true', decide_eq_true_eq, decide_eq_false_iff_not, Bool.or_eq_false_iff, Bool.and_eq_false_iff, Bool.not_eq_false'] at hd
        refine x_seq ?_
        refine x_region ?_
        refine r1 rfl (p_mv rfl) ?_
        refine r1 rfl (p_mv rfl) ?_
        refine r1 rfl (p_idx runUnderlying33 sizeOf5 rfl rfl (by omega) ((s_b.gr st.gr).isi (i := ((c : Int) + 1)) (by omega))) ?_
        obtain ⟨cs6, R6, C6⟩ := (s_b.gr st.gr).at_ (((c : Int) + 1)) (by omega)
        obtain ⟨rfl, p6⟩ := R6
        refine r1 rfl (p_ld isAgg5 rfl (C6 0 _ rfl)) ?_
        refine r1 rfl (p_conv runUnderlying5 runUnderlying3 rfl (wrap_i64 (by omega))) ?_
        refine r1 rfl (p_sub64 rfl rfl (by omega)) ?_
        refine r1 rfl (p_as rfl) ?_
        refine o_nil ?_
        refine x_seq ?_
        refine x_seq ?_
        have hgb : 0 ≤ gt b ((c : Int) + 1) ∧ gt b ((c : Int) + 1) ≤ 255 := gtB hbd (B := BU8) (by decide) _
        have hcl : c + 1 < b.length := by omega
        refine x_region ?_
        refine r1 rfl (p_mv rfl) ?_
        refine r1 rfl (p_lss rfl rfl) ?_
        refine r1 rfl (p_mv rfl) ?_
        apply o_or 3 (dj := 59) (d := 62) rfl
        · intro hg14_3
          have hg14_3_ := hg14_3
          try simp only [Bool.and_eq_true, Bool.or_eq_true, Bool.not_eq_true', decide_eq_true_eq, decide_eq_false_iff_not, Bool.or_eq_false_iff, Bool.and_eq_false_iff] at hg14_3_
          refine r1h rfl rfl rfl hg14_3 (p_mv rfl) ?_
          refine r1h rfl rfl rfl hg14_3 (p_gtr rfl rfl) ?_
          refine r1 rfl (p_pickf hg14_3 rfl rfl rfl) ?_
          exact o_nil ⟨rfl, rfl, by repeat (first | exact le_r _ | refine le_c rfl ?_)⟩
        · intro hg14_3
          refine o1n rfl rfl rfl hg14_3 ?_
          refine o1n rfl rfl rfl hg14_3 ?_
          refine r1 rfl (p_pickt hg14_3 rfl rfl rfl) ?_
          exact o_nil ⟨rfl, rfl, by repeat (first | exact le_r _ | refine le_c rfl ?_)⟩
        refine o_nil ?_
        refine x_cond rfl (fun he => ?_) (fun he => ?_)
        · skip
          try simp only [Bool.and_eq_true, Bool.or_eq_true, Bool.not_eq_true', decide_eq_true_eq, decide_eq_false_iff_not, Bool.or_eq_false_iff, Bool.and_eq_false_iff, Bool.not_eq_false'] at he
          refine x_seq ?_
          refine x_region ?_
          refine r1 rfl (p_as rfl) ?_
          refine o_nil ?_
          refine x_ret (fin1 rfl ?_)
          have e : tailOk b (c + 1) = false := by
            simp only [tailOk, Bool.and_eq_false_iff, Bool.or_eq_false_iff]
            right
            simp
            omega
          have e2 : ∀ d, c + 1 ≤ d → tailOk b d = false := by
            intro d hd
            induction d with
            | zero => omega
            | succ d ih =>
              by_cases h : c + 1 = d + 1
              · rw [← h]; exact e
              · simp only [tailOk, ih (by omega), Bool.false_and]
          have e3 : someF b n = false := by
            unfold someF
            rw [e2 (n.toNat - 1) (by omega)]
            simp
          rw [e3]
          exact ⟨rfl, st.x⟩
        · skip
          try simp only [Bool.and_eq_true, Bool.or_eq_true, Bool.not_eq_true', decide_eq_true_eq, decide_eq_false_iff_not, Bool.or_eq_false_iff, Bool.and_eq_false_iff, Bool.not_eq_false'] at he
          have e1 : loA b v (c + 1) = loA b v c * 64 + (gt b ((c : Int) + 1) - 128) := by simp only [loA, if_pos hcl]
          have e2 : hiA b v (c + 1) = hiA b v c * 64 + 63 - 63 + (gt b ((c : Int) + 1) - 128) := by simp only [hiA, if_pos hcl]; omega
          refine x_skip ?_
          refine x_seq ?_
          refine x_region ?_
          refine r1 rfl (p_mv rfl) ?_
          refine r1 rfl (p_mv rfl) ?_
          refine r1 rfl (p_add64 rfl rfl (by omega)) ?_
          refine r1 rfl (p_as rfl) ?_
          refine o_nil ?_
          refine x_region ?_
          refine r1 rfl (p_mv rfl) ?_
          refine r1 rfl (p_sub64 rfl rfl (by omega)) ?_
          refine r1 rfl (p_mv rfl) ?_
          refine r1 rfl (p_add64 rfl rfl (by omega)) ?_
          refine r1 rfl (p_as rfl) ?_
          refine o_nil ?_
          refine x_region ?_
          refine r1 rfl (p_mv rfl) ?_
          refine r1 rfl (p_add64 rfl rfl (by omega)) ?_
          refine r1 rfl (p_as rfl) ?_
          refine o_nil ?_
          rw [← e1, ← e2]
          refine ⟨(c + 1, M_), ⟨⟨rfl, rfl, rfl, rfl, rfl, trivial⟩, rfl⟩, ?_, ?_⟩
          · skip
            refine ⟨st, ?_, ?_⟩
            · omega
            · simp only [tailOk, hi1, Bool.true_and, Bool.or_eq_true, decide_eq_true_eq]; omega
          · (try dsimp only); omega
      · skip
        try simp only [Bool.and_eq_true, Bool.or_eq_true, Bool.not_eq_true', decide_eq_true_eq, decide_eq_false_iff_not, Bool.or_eq_false_iff, Bool.and_eq_false_iff, Bool.not_eq_false'] at hd
        have e1 : loA b v (c + 1) = loA b v c * 64 := by simp only [loA, if_neg (show ¬ c + 1 < b.length by omega)]; omega
        have e2 : hiA b v (c + 1) = hiA b v c * 64 + 63 := by simp only [hiA, if_neg (show ¬ c + 1 < b.length by omega)]; omega
        refine x_skip ?_
        refine x_region ?_
        refine r1 rfl (p_mv rfl) ?_
        refine r1 rfl (p_add64 rfl rfl (by omega)) ?_
        refine r1 rfl (p_as rfl) ?_
        refine o_nil ?_
        rw [← e1, ← e2]
        refine ⟨(c + 1, M_), ⟨⟨rfl, rfl, rfl, rfl, rfl, trivial⟩, rfl⟩, ?_, ?_⟩
        · skip
          refine ⟨st, ?_, ?_⟩
          · omega
          · simp only [tailOk, hi1, Bool.true_and, Bool.or_eq_true, decide_eq_true_eq]; omega
        · (try dsimp only); omega
    · skip
      try simp only [Bool.and_eq_true, Bool.or_eq_true, Bool.not_eq_true', decide_eq_true_eq, decide_eq_false_iff_not, Bool.or_eq_false_iff, Bool.and_eq_false_iff, Bool.not_eq_false'] at hc
      have hcn : n.toNat - 1 = c := by omega
      have hfr : ∀ i : Int, 0 ≤ gt froms i ∧ gt froms i ≤ 65536 := fun i => gtB (l := froms) (B := fun x => 0 ≤ x ∧ x ≤ 65536) (by decide) (by decide) i
      refine x_exit ?_
      refine x_seq ?_
      refine x_region ?_
      refine o1 rfl (s_bs runUnderlying139 sizeOf3 zeroValue3 rfl rfl rfl rfl rfl ?_)
      intro bb7 hb7 n7
      have nmb7 : ¬ M_ bb7 := fun hh => by have := st.lt _ hh; have := n7.at_; omega
      have st := st.ext n7.ext
      have s7 : Sl r64 M_ hb7 (some ⟨bb7, 0, none⟩) 5 ([0, 0, 128, 2048, 65536] : List Int) := n7.sl nmb7 rfl (els_cons (by exact ⟨rfl, (by omega)⟩) (els_cons (by exact ⟨rfl, (by omega)⟩) (els_cons (by exact ⟨rfl, (by omega)⟩) (els_cons (by exact ⟨rfl, (by omega)⟩) (els_cons (by exact ⟨rfl, (by omega)⟩) els_nil)))))
      refine r1 rfl (p_as rfl) ?_
      refine o_nil ?_
      refine x_seq ?_
      refine x_region ?_
      refine o1 rfl (s_bs runUnderlying139 sizeOf3 zeroValue3 rfl rfl rfl rfl rfl ?_)
      intro bb8 hb8 n8
      have nmb8 : ¬ M_ bb8 := fun hh => by have := st.lt _ hh; have := n8.at_; omega
      have s7 := s7.gr (.ext n8.ext)
      have st := st.ext n8.ext
      have s8 : Sl r64 M_ hb8 (some ⟨bb8, 0, none⟩) 5 ([0, 127, 2047, 65535, 1114111] : List Int) := n8.sl nmb8 rfl (els_cons (by exact ⟨rfl, (by omega)⟩) (els_cons (by exact ⟨rfl, (by omega)⟩) (els_cons (by exact ⟨rfl, (by omega)⟩) (els_cons (by exact ⟨rfl, (by omega)⟩) (els_cons (by exact ⟨rfl, (by omega)⟩) els_nil)))))
      refine r1 rfl (p_as rfl) ?_
      refine o_nil ?_
      refine x_seq ?_
      replace s7 : Sl r64 M_ hb8 (some ⟨bb7, 0, none⟩) 5 froms := s7
      replace s8 : Sl r64 M_ hb8 (some ⟨bb8, 0, none⟩) 5 tos := s8
      refine x_region ?_
      refine r1 rfl (p_mv rfl) ?_
      refine r1 rfl (p_mv rfl) ?_
      refine r1 rfl (p_mv rfl) ?_
      refine r1 rfl (p_idx runUnderlying139 sizeOf3 rfl rfl (by simp [froms]; omega) (s7.isi (i := n) (by simp [froms]; omega))) ?_
      obtain ⟨cs9, R9, C9⟩ := s7.at_ (n) (by simp [froms]; omega)
      obtain ⟨rfl, p9⟩ := R9
      refine r1 rfl (p_ld isAgg3 rfl (C9 0 _ rfl)) ?_
      refine r1 rfl (p_max2 rfl rfl) ?_
      refine r1 rfl (p_as rfl) ?_
      refine o_nil ?_
      refine x_seq ?_
      refine x_region ?_
      refine r1 rfl (p_mv rfl) ?_
      refine r1 rfl (p_mv rfl) ?_
      refine r1 rfl (p_mv rfl) ?_
      refine r1 rfl (p_idx runUnderlying139 sizeOf3 rfl rfl (by simp [tos]; omega) (s8.isi (i := n) (by simp [tos]; omega))) ?_
      obtain ⟨cs10, R10, C10⟩ := s8.at_ (n) (by simp [tos]; omega)
      obtain ⟨rfl, p10⟩ := R10
      refine r1 rfl (p_ld isAgg3 rfl (C10 0 _ rfl)) ?_
      refine r1 rfl (p_min2 rfl rfl) ?_
      refine r1 rfl (p_as rfl) ?_
      refine o_nil ?_
      refine x_seq ?_
      refine x_region ?_
      refine r1 rfl (p_mv rfl) ?_
      refine r1 rfl (p_mv rfl) ?_
      refine r1 rfl (p_leq rfl rfl) ?_
      refine r1 rfl (p_mv rfl) ?_
      apply o_and 7 (dj := 87) (d := 94) rfl
      · intro hg22_4
        have hg22_4_ := hg22_4
        try simp only [Bool.and_eq_true, Bool.or_eq_true, Bool.not_eq_true', decide_eq_true_eq, decide_eq_false_iff_not, Bool.or_eq_false_iff, Bool.and_eq_false_iff] at hg22_4_
        refine r1h rfl rfl rfl hg22_4 (p_mv rfl) ?_
        refine r1h rfl rfl rfl hg22_4 (p_lss rfl rfl) ?_
        refine r1h rfl rfl rfl hg22_4 (p_mv rfl) ?_
        apply o_or 3 (dj := 90) (d := 93) rfl
        · intro hg22_7
          have hg22_7_ := hg22_7
          try simp only [Bool.and_eq_true, Bool.or_eq_true, Bool.not_eq_true', decide_eq_true_eq, decide_eq_false_iff_not, Bool.or_eq_false_iff, Bool.and_eq_false_iff] at hg22_7_
          refine r1h rfl rfl rfl hg22_7 (p_mv rfl) ?_
          refine r1h rfl rfl rfl hg22_7 (p_gtr rfl rfl) ?_
          refine r1h rfl rfl rfl hg22_4 (p_pickf hg22_7 rfl rfl rfl) ?_
          exact o_nil ⟨rfl, rfl, by repeat (first | exact le_r _ | refine le_c rfl ?_)⟩
        · intro hg22_7
          refine o1n rfl rfl rfl hg22_7 ?_
          refine o1n rfl rfl rfl hg22_7 ?_
          refine r1h rfl rfl rfl hg22_4 (p_pickt hg22_7 rfl rfl rfl) ?_
          exact o_nil ⟨rfl, rfl, by repeat (first | exact le_r _ | refine le_c rfl ?_)⟩
        refine r1 rfl (p_pickt hg22_4 rfl rfl rfl) ?_
        exact o_nil ⟨rfl, rfl, by repeat (first | exact le_r _ | refine le_c rfl ?_)⟩
      · intro hg22_4
        refine o1n rfl rfl rfl hg22_4 ?_
        refine o1n rfl rfl rfl hg22_4 ?_
        refine o1n rfl rfl rfl hg22_4 ?_
        refine o1u rfl rfl rfl ?_
        refine o1u rfl rfl rfl ?_
        refine o1n rfl rfl rfl hg22_4 ?_
        refine r1 rfl (p_pickf hg22_4 rfl rfl rfl) ?_
        exact o_nil ⟨rfl, rfl, by repeat (first | exact le_r _ | refine le_c rfl ?_)⟩
      refine r1 rfl (p_as rfl) ?_
      refine o_nil ?_
      refine x_ret (fin1 rfl ?_)
      have e : someF b n = (decide (max (loA b v c) (gt froms n) ≤ min (hiA b v c) (gt tos n)) && (decide (max (loA b v c) (gt froms n) < 55296) || decide (57343 < min (hiA b v c) (gt tos n)))) := by
        unfold someF
        rw [hv, hcn, hi1, decide_eq_true (show 0 ≤ v by omega), decide_eq_true (show v < gt sizes n by omega)]
        rfl
      rw [e]
      exact ⟨rfl, st.x⟩

def beginsF (b : List Int) : Int :=
  if 1 ≤ b.length ∧ b.length ≤ 1 ∧ someF b 1 = true then 1 else if 1 ≤ b.length ∧ b.length ≤ 2 ∧ someF b 2 = true then 2
  else if 1 ≤ b.length ∧ b.length ≤ 3 ∧ someF b 3 = true then 3 else if 1 ≤ b.length ∧ b.length ≤ 4 ∧ someF b 4 = true then 4 else 0
theorem begins_hit {b : List Int} {n : Nat} (hn : 1 ≤ n ∧ n ≤ 4) (hl : 1 ≤ b.length ∧ b.length ≤ n) (hs : someF b n = true) (hno : ∀ m : Nat, 1 ≤ m → m < n → ¬ (1 ≤ b.length ∧ b.length ≤ m ∧ someF b m = true)) : beginsF b = n := by
  have k (m : Nat) (h1 : 1 ≤ m) (h2 : m < n) : ¬ (1 ≤ b.length ∧ b.length ≤ m ∧ someF b m = true) := hno m h1 h2
  unfold beginsF
  match n, hn with
  | 1, _ => rw [if_pos ⟨hl.1, hl.2, hs⟩]; rfl
  | 2, _ => rw [if_neg (show ¬ (1 ≤ b.length ∧ b.length ≤ 1 ∧ someF b 1 = true) from hno 1 (by omega) (by omega)), if_pos ⟨hl.1, hl.2, hs⟩]; rfl
  | 3, _ => rw [if_neg (show ¬ (1 ≤ b.length ∧ b.length ≤ 1 ∧ someF b 1 = true) from hno 1 (by omega) (by omega)), if_neg (show ¬ (1 ≤ b.length ∧ b.length ≤ 2 ∧ someF b 2 = true) from hno 2 (by omega) (by omega)), if_pos ⟨hl.1, hl.2, hs⟩]; rfl
  | 4, _ => rw [if_neg (show ¬ (1 ≤ b.length ∧ b.length ≤ 1 ∧ someF b 1 = true) from hno 1 (by omega) (by omega)), if_neg (show ¬ (1 ≤ b.length ∧ b.length ≤ 2 ∧ someF b 2 = true) from hno 2 (by omega) (by omega)), if_neg (show ¬ (1 ≤ b.length ∧ b.length ≤ 3 ∧ someF b 3 = true) from hno 3 (by omega) (by omega)), if_pos ⟨hl.1, hl.2, hs⟩]; rfl
theorem begins_none {b : List Int} (hno : ∀ m : Nat, 1 ≤ m → m < 5 → ¬ (1 ≤ b.length ∧ b.length ≤ m ∧ someF b m = true)) : beginsF b = 0 := by
  unfold beginsF
  rw [if_neg (show ¬ (1 ≤ b.length ∧ b.length ≤ 1 ∧ someF b 1 = true) from hno 1 (by omega) (by omega)), if_neg (show ¬ (1 ≤ b.length ∧ b.length ≤ 2 ∧ someF b 2 = true) from hno 2 (by omega) (by omega)), if_neg (show ¬ (1 ≤ b.length ∧ b.length ≤ 3 ∧ someF b 3 = true) from hno 3 (by omega) (by omega)), if_neg (show ¬ (1 ≤ b.length ∧ b.length ≤ 4 ∧ someF b 4 = true) from hno 4 (by omega) (by omega))]
theorem c_03Begins (N : Nat → Prop) (h : Hp) (hN : ∀ b, N b → b < h.size) (b : List Int) {a_b : Option Addr} {c_b : Nat} (s_b : Sl r8 N h a_b c_b b) : C prog 33 [.slice a_b b.length c_b] h (fun v h' => v = .int .i64 (beginsF b) ∧ Ext h h') := by
  have st := St.init hN
  have ns_b := s_b.ll
  refine enter func33 rfl ntmps33 results33 rfl rfl ?_
  refine x_seq ?_
  refine x_region ?_
  refine r1 rfl (p_as rfl) ?_
  refine o_nil ?_
  refine x_seq ?_
  refine x_seq ?_
  refine x_region ?_
  refine r1 rfl (p_as rfl) ?_
  refine o_nil ?_
  refine x_block ?_
  refine x_loope (σ := Nat × (Nat → Prop)) (fun st_ E0 => match st_ with | (n, M_) => (3, .int .i64 ((n : Int) + 1)) :: E0) [(0, _)] (fun st_ h' => match st_ with | (n, M_) => St N h (fun _ => False) M_ h' ∧ (n ≤ 4) ∧ (∀ m : Nat, 1 ≤ m → m < n + 1 → ¬ (1 ≤ b.length ∧ b.length ≤ m ∧ someF b m = true))) (fun st_ => match st_ with | (n, M_) => 4 - n) (0, N) ⟨⟨rfl, rfl, trivial⟩, rfl⟩ ?_ ?_
  · skip
    refine ⟨st, ?_, ?_⟩
    · omega
    · intro m h1 h2; omega
  rintro ⟨n, M_⟩ h' ⟨st, hi0, hi1⟩
  show X _ _ _ _ (_ :: _) _ _
  refine x_seq ?_
  refine x_seq ?_
  refine x_region ?_
  refine r1 rfl (p_mv rfl) ?_
  refine r1 rfl (p_leq rfl rfl) ?_
  refine o_nil ?_
  refine x_cond rfl (fun hc => ?_) (fun hc => ?_)
  · skip
    try simp only [Bool.and_eq_true, Bool.or_eq_true, Bool.not_eq_true', decide_eq_true_eq, decide_eq_false_iff_not, Bool.or_eq_false_iff, Bool.and_eq_false_iff, Bool.not_eq_false'] at hc
    refine x_skip ?_
    refine x_seq ?_
    refine x_block ?_
    refine x_seq ?_
    refine x_region ?_
    refine r1 rfl (p_mv rfl) ?_
    refine r1 rfl (p_len runUnderlying33 rfl) ?_
    refine r1 rfl (p_geq rfl rfl) ?_
    refine r1 rfl (p_mv rfl) ?_
    apply o_and 5 (dj := 11) (d := 16) rfl
    · intro hg4_4
      have hg4_4_ := hg4_4
      try simp only [Bool.and_eq_true, Bool.or_eq_true, Bool.not_eq_true', decide_eq_true_eq, decide_eq_false_iff_not, Bool.or_eq_false_iff, Bool.and_eq_false_iff] at hg4_4_
      refine r1h rfl rfl rfl hg4_4 (p_mv rfl) ?_
      refine r1h rfl rfl rfl hg4_4 (p_len runUnderlying33 rfl) ?_
      refine r1h rfl rfl rfl hg4_4 (p_mv rfl) ?_
      refine r1h rfl rfl rfl hg4_4 (p_leq rfl rfl) ?_
      refine r1 rfl (p_pickt hg4_4 rfl rfl rfl) ?_
      exact o_nil ⟨rfl, rfl, by repeat (first | exact le_r _ | refine le_c rfl ?_)⟩
    · intro hg4_4
      refine o1n rfl rfl rfl hg4_4 ?_
      refine o1n rfl rfl rfl hg4_4 ?_
      refine o1n rfl rfl rfl hg4_4 ?_
      refine o1n rfl rfl rfl hg4_4 ?_
      refine r1 rfl (p_pickf hg4_4 rfl rfl rfl) ?_
      exact o_nil ⟨rfl, rfl, by repeat (first | exact le_r _ | refine le_c rfl ?_)⟩
    refine r1 rfl (p_mv rfl) ?_
    apply o_andx 4 (dj := 17) (d := 21) rfl
    · intro hg4_10
      have hg4_10_ := hg4_10
      try simp only [Bool.and_eq_true, Bool.or_eq_true, Bool.not_eq_true', decide_eq_true_eq, decide_eq_false_iff_not, Bool.or_eq_false_iff, Bool.and_eq_false_iff] at hg4_10_
      have xghg4_10 := Ext.refl h'
      refine r1h rfl rfl rfl hg4_10 (p_mv rfl) ?_
      refine r1h rfl rfl rfl hg4_10 (p_mv rfl) ?_
      refine o1h rfl rfl rfl hg4_10 (s_call call53 rfl (c_03some M_ h' st.lt b ((n : Int) + 1) (s_b.gr st.gr) (by first | omega | (simp only [List.length_append, List.length_cons, List.length_nil, List.length_map, List.length_take, List.length_drop, List.length_replicate]; omega)) (by first | omega | (simp only [List.length_append, List.length_cons, List.length_nil, List.length_map, List.length_take, List.length_drop, List.length_replicate]; omega))) ?_)
      rintro _ hp1 ⟨rfl, x1⟩
      have st := st.ext x1
      have xghg4_10 := xghg4_10.trans (x1)
      refine r1 rfl (p_pickt hg4_10 rfl rfl rfl) ?_
      exact o_nil ⟨rfl, xghg4_10, by repeat (first | exact le_r _ | refine le_c rfl ?_)⟩
    · intro hg4_10
      refine o1n rfl rfl rfl hg4_10 ?_
      refine o1n rfl rfl rfl hg4_10 ?_
      refine o1n rfl rfl rfl hg4_10 ?_
      refine r1 rfl (p_pickf hg4_10 rfl rfl rfl) ?_
      exact o_nil ⟨rfl, Ext.refl _, by repeat (first | exact le_r _ | refine le_c rfl ?_)⟩
    intro hx2 xx2
    have st := st.ext xx2
    refine o_nil ?_
    refine x_cond rfl (fun hd => ?_) (fun hd => ?_)
    · skip
      try simp only [Bool.and_eq_true, Bool.or_eq_true, Bool.not_eq_true', decide_eq_true_eq, decide_eq_false_iff_not, Bool.or_eq_false_iff, Bool.and_eq_false_iff, Bool.not_eq_false'] at hd
      refine x_seq ?_
      refine x_region ?_
      refine r1 rfl (p_mv rfl) ?_
      refine r1 rfl (p_as rfl) ?_
      refine o_nil ?_
      refine x_ret (fin1 rfl ?_)
      have e : beginsF b = (n : Int) + 1 := by
        have := begins_hit (b := b) (n := n + 1) (by omega) (by omega) (by simpa using hd.2) hi1
        simpa using this
      rw [e]
      exact ⟨rfl, st.x⟩
    · skip
      try simp only [Bool.and_eq_true, Bool.or_eq_true, Bool.not_eq_true', decide_eq_true_eq, decide_eq_false_iff_not, Bool.or_eq_false_iff, Bool.and_eq_false_iff, Bool.not_eq_false'] at hd
      refine x_skip ?_
      refine x_region ?_
      refine r1 rfl (p_mv rfl) ?_
      refine r1 rfl (p_add64 rfl rfl (by omega)) ?_
      refine r1 rfl (p_as rfl) ?_
      refine o_nil ?_
      refine ⟨(n + 1, M_), ⟨⟨rfl, rfl, trivial⟩, rfl⟩, ?_, ?_⟩
      · skip
        refine ⟨st, ?_, ?_⟩
        · omega
        · intro m h1 h2
          by_cases e : m = n + 1
          · subst e
            rintro ⟨g1, g2, g3⟩
            have g4 : someF b ((n : Int) + 1) = true := by simpa using g3
            rcases hd with hd | hd
            · omega
            · rw [g4] at hd; cases hd
          · exact hi1 m h1 (by omega)
      · (try dsimp only); omega
  · skip
    try simp only [Bool.and_eq_true, Bool.or_eq_true, Bool.not_eq_true', decide_eq_true_eq, decide_eq_false_iff_not, Bool.or_eq_false_iff, Bool.and_eq_false_iff, Bool.not_eq_false'] at hc
    refine x_exit ?_
    refine x_seq ?_
    refine x_region ?_
    refine r1 rfl (p_as rfl) ?_
    refine o_nil ?_
    refine x_ret (fin1 rfl ?_)
    rw [begins_none fun m h1 h2 => hi1 m h1 (by omega)]
    exact ⟨rfl, st.x⟩

def wholeF (b : List Int) : Int := loA b (gt b 0 - gt marks b.length) (b.length - 1)
theorem c_03whole (N : Nat → Prop) (h : Hp) (hN : ∀ b, N b → b < h.size) (b : List Int) {a_b : Option Addr} {c_b : Nat} (s_b : Sl r8 N h a_b c_b b) (hb : 1 ≤ b.length ∧ b.length ≤ 4) : C prog 54 [.slice a_b b.length c_b] h (fun v h' => v = .int .i32 (wholeF b) ∧ B32 (wholeF b) ∧ Ext h h') := by
  have st := St.init hN
  have ns_b := s_b.ll
  have hbd := s_b.bnd
  have hmk : ∀ i : Int, 0 ≤ gt marks i ∧ gt marks i ≤ 255 := fun i => gtB (l := marks) (B := fun x => 0 ≤ x ∧ x ≤ 255) (by decide) (by decide) i
  refine enter func54 rfl ntmps54 results54 rfl rfl ?_
  refine x_seq ?_
  refine x_region ?_
  refine r1 rfl (p_as rfl) ?_
  refine o_nil ?_
  refine x_seq ?_
  refine x_region ?_
  refine o1 rfl (s_bs runUnderlying139 sizeOf3 zeroValue3 rfl rfl rfl rfl rfl ?_)
  intro bb1 hb1 n1
  have nmb1 : ¬ N bb1 := fun hh => by have := st.lt _ hh; have := n1.at_; omega
  have st := st.ext n1.ext
  have s1 : Sl r64 N hb1 (some ⟨bb1, 0, none⟩) 5 ([0, 0, 192, 224, 240] : List Int) := n1.sl nmb1 rfl (els_cons (by exact ⟨rfl, (by omega)⟩) (els_cons (by exact ⟨rfl, (by omega)⟩) (els_cons (by exact ⟨rfl, (by omega)⟩) (els_cons (by exact ⟨rfl, (by omega)⟩) (els_cons (by exact ⟨rfl, (by omega)⟩) els_nil)))))
  refine r1 rfl (p_as rfl) ?_
  refine o_nil ?_
  refine x_seq ?_
  replace s1 : Sl r64 N hb1 (some ⟨bb1, 0, none⟩) 5 marks := s1
  refine x_regt (by kernel_rfl) (by kernel_rfl) ?_
  refine t1 rfl (p_mv rfl) ?_
  refine t1 rfl (p_idx runUnderlying33 sizeOf5 rfl rfl (by omega) ((s_b.gr st.gr).isi (i := 0) (by omega))) ?_
  obtain ⟨cs2, R2, C2⟩ := (s_b.gr st.gr).at_ (0) (by omega)
  obtain ⟨rfl, p2⟩ := R2
  refine t1 rfl (p_ld isAgg5 rfl (C2 0 _ rfl)) ?_
  refine t1 rfl (p_conv runUnderlying5 runUnderlying3 rfl (wrap_i64 (by omega))) ?_
  refine t1 rfl (p_mv rfl) ?_
  refine t1 rfl (p_mv rfl) ?_
  refine t1 rfl (p_len runUnderlying33 rfl) ?_
  refine t1 rfl (p_idx runUnderlying139 sizeOf3 rfl rfl (by simp [marks]; omega) (s1.isi (i := ((b.length : Nat) : Int)) (by simp [marks]; omega))) ?_
  obtain ⟨cs3, R3, C3⟩ := s1.at_ (((b.length : Nat) : Int)) (by simp [marks]; omega)
  obtain ⟨rfl, p3⟩ := R3
  refine t1 rfl (p_ld isAgg3 rfl (C3 0 _ rfl)) ?_
  refine t1 rfl (p_sub64 rfl rfl (by have := hmk b.length; omega)) ?_
  refine t1 rfl (p_as rfl) ?_
  refine t_nil ?_
  refine x_seq ?_
  refine x_seq ?_
  refine x_region ?_
  refine r1 rfl (p_as rfl) ?_
  refine o_nil ?_
  refine x_block ?_
  generalize hv : gt b 0 - gt marks b.length = v at *
  refine x_loope (σ := Nat × (Nat → Prop)) (fun st_ E0 => match st_ with | (c, M_) => (5, .int .i64 ((c : Int) + 1)) :: (4, .int .i64 (loA b v c)) :: E0) [(0, _)] (fun st_ h' => match st_ with | (c, M_) => St N h (fun _ => False) M_ h' ∧ (c + 1 ≤ b.length)) (fun st_ => match st_ with | (c, M_) => b.length - c) (0, N) ⟨⟨rfl, rfl, rfl, trivial⟩, rfl⟩ ?_ ?_
  · skip
    refine ⟨st, ?_⟩
    · first | omega | assumption | (simp; done) | (simp; omega)
  rintro ⟨c, M_⟩ h' ⟨st, hi0⟩
  show X _ _ _ _ (_ :: _) _ _
  have hv2 : -256 ≤ v ∧ v ≤ 256 := by have := hmk b.length; have := gtB hbd (B := BU8) (by decide) 0; omega
  have hla := loA_bd (v := v) hbd hv2 c (by omega)
  have hlb : -300000000 ≤ loA b v c ∧ loA b v c ≤ 300000000 := by
    have : c ≤ 3 := by omega
    match c, this, hla with
    | 0, _, hla => omega
    | 1, _, hla => omega
    | 2, _, hla => omega
    | 3, _, hla => omega
  refine x_seq ?_
  refine x_seq ?_
  refine x_region ?_
  refine r1 rfl (p_mv rfl) ?_
  refine r1 rfl (p_mv rfl) ?_
  refine r1 rfl (p_len runUnderlying33 rfl) ?_
  refine r1 rfl (p_lss rfl rfl) ?_
  refine o_nil ?_
  refine x_cond rfl (fun hc => ?_) (fun hc => ?_)
  · skip
    try simp only [Bool.and_eq_true, Bool.or_eq_true, Bool.not_eq_true', decide_eq_true_eq, decide_eq_false_iff_not, Bool.or_eq_false_iff, Bool.and_eq_false_iff, Bool.not_eq_false'] at hc
    have hcl : c + 1 < b.length := by omega
    have e1 : loA b v (c + 1) = loA b v c * 64 + gt b ((c : Int) + 1) - 128 := by simp only [loA, if_pos hcl]; omega
    refine x_skip ?_
    refine x_seq ?_
    refine x_block ?_
    refine x_region ?_
    refine r1 rfl (p_mv rfl) ?_
    refine r1 rfl (p_mul64 rfl rfl (by omega)) ?_
    refine r1 rfl (p_mv rfl) ?_
    refine r1 rfl (p_mv rfl) ?_
    refine r1 rfl (p_idx runUnderlying33 sizeOf5 rfl rfl (by omega) ((s_b.gr st.gr).isi (i := ((c : Int) + 1)) (by omega))) ?_
    obtain ⟨cs4, R4, C4⟩ := (s_b.gr st.gr).at_ (((c : Int) + 1)) (by omega)
    obtain ⟨rfl, p4⟩ := R4
    refine r1 rfl (p_ld isAgg5 rfl (C4 0 _ rfl)) ?_
    refine r1 rfl (p_conv runUnderlying5 runUnderlying3 rfl (wrap_i64 (by omega))) ?_
    refine r1 rfl (p_add64 rfl rfl (by omega)) ?_
    refine r1 rfl (p_sub64 rfl rfl (by omega)) ?_
    refine r1 rfl (p_as rfl) ?_
    refine o_nil ?_
    refine x_region ?_
    refine r1 rfl (p_mv rfl) ?_
    refine r1 rfl (p_add64 rfl rfl (by omega)) ?_
    refine r1 rfl (p_as rfl) ?_
    refine o_nil ?_
    rw [← e1]
    refine ⟨(c + 1, M_), ⟨⟨rfl, rfl, rfl, trivial⟩, rfl⟩, ?_, ?_⟩
    · skip
      refine ⟨st, ?_⟩
      · first | omega | assumption | (simp; done) | (simp; omega)
    · (try dsimp only); omega
  · skip
    try simp only [Bool.and_eq_true, Bool.or_eq_true, Bool.not_eq_true', decide_eq_true_eq, decide_eq_false_iff_not, Bool.or_eq_false_iff, Bool.and_eq_false_iff, Bool.not_eq_false'] at hc
    refine x_exit ?_
    refine x_seq ?_
    refine x_region ?_
    refine r1 rfl (p_mv rfl) ?_
    refine r1 rfl (p_conv runUnderlying3 runUnderlying21 rfl (wrap_i32 (by omega))) ?_
    refine r1 rfl (p_as rfl) ?_
    refine o_nil ?_
    refine x_ret (fin1 rfl ?_)
    have e : wholeF b = loA b v c := by unfold wholeF; rw [hv, show b.length - 1 = c by omega]
    rw [e]
    exact ⟨rfl, (by first | omega | assumption | (dsimp only; omega)), st.x⟩
end Go.Proofs
