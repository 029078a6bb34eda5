import Derived.Test.YteeienbhmkiloaaGreatDoorW19
set_option linter.unusedSimpArgs false
set_option linter.unusedVariables false
namespace Go.Proofs
open Go.Lx Tryz

def ops0 : List OpT := [⟨0, 0, 0, [97, 226]⟩, ⟨2, 0, 0, []⟩, ⟨0, 0, 0, [130, 172]⟩]
theorem groups0 : groupsF ops0 = [[97], [8364]] := by
  have b1 : ∀ x ∈ ([97, 226] : List Int), BU8 x := by decide
  have b2 : ∀ x ∈ ([97, 226, 130, 172] : List Int), BU8 x := by decide
  have h1 := (told_feed b1).1
  have h2 := (told_feed b2).1
  have f1 : (feedF [] [97, 226]).1 = [97] := by decide
  have f2 : (feedF [] [97, 226, 130, 172]).1 = [97, 8364] := by decide
  rw [f1] at h1
  rw [f2] at h2
  have l1 : (told [97, 226]).length = 1 := by have := congrArg List.length h1; simpa using this
  have e : groupsF ops0 = [(told [97, 226]).map GotT.r, ((told [97, 226, 130, 172]).drop (told [97, 226]).length).map GotT.r] := rfl
  rw [e, List.map_drop, h1, h2, l1]
  rfl
theorem pl38 : ∀ w, ((#[{ name := "Kind", type := 3, offset := 0, embedded := false, tag := "", pkgPath := "", byteOffset := 0 }, { name := "A", type := 3, offset := 1, embedded := false, tag := "", pkgPath := "", byteOffset := 8 }, { name := "B", type := 3, offset := 2, embedded := false, tag := "", pkgPath := "", byteOffset := 16 }, { name := "Bytes", type := 33, offset := 3, embedded := false, tag := "", pkgPath := "", byteOffset := 24 }] : Array Field).mapM (fun f => do return (f.offset, ← sizeOf f.type)) : Sem (Array (Nat × Nat))).run prog w = .ok (([(0, 1), (1, 1), (2, 1), (3, 1)] : List (Nat × Nat))).toArray w := fun _ => by kernel_rfl
theorem c_works (N : Nat → Prop) (h : Hp) (hN : ∀ b, N b → b < h.size)   (gl : Gl GL N h) : C prog 4 [] h (fun v h' => v = .bool true ∧ Ext h h') := by
  have st := St.init hN
  refine enter func4 rfl ntmps4 results4 rfl rfl ?_
  refine x_seq ?_
  refine x_region ?_
  refine r1 rfl (p_as rfl) ?_
  refine o_nil ?_
  refine x_seq ?_
  refine x_region ?_
  refine o1 rfl (s_bs runUnderlying33 sizeOf5 zeroValue5 rfl rfl rfl rfl rfl ?_)
  intro bb1 hb1 n1
  have nmb1 : ¬ N bb1 := fun hh => by have := st.lt _ hh; have := n1.at_; omega
  have st := st.ext n1.ext
  have s1 : Sl r8 N hb1 (some ⟨bb1, 0, none⟩) 2 ([97, 226] : List Int) := n1.sl nmb1 rfl (els_cons (by exact ⟨rfl, (by first | omega | decide | (dsimp only; omega))⟩) (els_cons (by exact ⟨rfl, (by first | omega | decide | (dsimp only; omega))⟩) els_nil))
  refine r1 rfl (p_bs runUnderlying38 zeroValue38 pl38 rfl) ?_
  show O _ _ _ _ _ ((_, .agg #[_, _, _, _]) :: _) _ _
  refine r1 rfl (p_bs runUnderlying38 zeroValue38 pl38 rfl) ?_
  show O _ _ _ _ _ ((_, .agg #[_, _, _, _]) :: _) _ _
  refine o1 rfl (s_bs runUnderlying33 sizeOf5 zeroValue5 rfl rfl rfl rfl rfl ?_)
  intro bb2 hb2 n2
  have nmb2 : ¬ N bb2 := fun hh => by have := st.lt _ hh; have := n2.at_; omega
  have s1 := s1.gr (.ext n2.ext)
  have st := st.ext n2.ext
  have s2 : Sl r8 N hb2 (some ⟨bb2, 0, none⟩) 2 ([130, 172] : List Int) := n2.sl nmb2 rfl (els_cons (by exact ⟨rfl, (by first | omega | decide | (dsimp only; omega))⟩) (els_cons (by exact ⟨rfl, (by first | omega | decide | (dsimp only; omega))⟩) els_nil))
  refine r1 rfl (p_bs runUnderlying38 zeroValue38 pl38 rfl) ?_
  show O _ _ _ _ _ ((_, .agg #[_, _, _, _]) :: _) _ _
  refine o1 rfl (s_bs runUnderlying22 sizeOf38 zeroValue38 rfl rfl rfl rfl rfl ?_)
  intro bb3 hb3 n3
  have nmb3 : ¬ N bb3 := fun hh => by have := st.lt _ hh; have := n3.at_; omega
  have s1 := s1.gr (.ext n3.ext)
  have s2 := s2.gr (.ext n3.ext)
  have st := st.ext n3.ext
  have s3 : Sl rOpT N hb3 (some ⟨bb3, 0, none⟩) 3 ([(⟨0, 0, 0, [97, 226]⟩ : OpT), (⟨2, 0, 0, []⟩ : OpT), (⟨0, 0, 0, [130, 172]⟩ : OpT)] : List OpT) := n3.sl nmb3 rfl (els_cons (by exact ⟨_, _, rfl, (by first | omega | decide | (dsimp only; omega)), (by first | omega | decide | (dsimp only; omega)), (by first | omega | decide | (dsimp only; omega)), s1⟩) (els_cons (by exact ⟨_, _, rfl, (by first | omega | decide | (dsimp only; omega)), (by first | omega | decide | (dsimp only; omega)), (by first | omega | decide | (dsimp only; omega)), (Sl.nil (r := r8) (M := N) (h := hb3) (a := none) (cap := 0))⟩) (els_cons (by exact ⟨_, _, rfl, (by first | omega | decide | (dsimp only; omega)), (by first | omega | decide | (dsimp only; omega)), (by first | omega | decide | (dsimp only; omega)), s2⟩) els_nil)))
  refine o1 rfl (s_call call6 rfl (c_Groups N hb3 st.lt ([(⟨0, 0, 0, [97, 226]⟩ : OpT), (⟨2, 0, 0, []⟩ : OpT), (⟨0, 0, 0, [130, 172]⟩ : OpT)]) s3 (by decide) (by decide) (by exact gl.gr st.gr)) ?_)
  rintro _ hp4 ⟨a4, c4, rfl, s4, x4⟩
  have st := st.ext x4
  have ns4 := s4.ll
  refine r1 rfl (p_as rfl) ?_
  refine o_nil ?_
  refine x_seq ?_
  have te5 : groupsF ([(⟨0, 0, 0, [97, 226]⟩ : OpT), (⟨2, 0, 0, []⟩ : OpT), (⟨0, 0, 0, [130, 172]⟩ : OpT)]) = [[97], [8364]] := groups0
  rw [te5] at s4
  try rw [te5]
  refine x_region ?_
  refine r1 rfl (p_mv rfl) ?_
  refine r1 rfl (p_len runUnderlying25 rfl) ?_
  refine r1 rfl (p_eql rfl rfl) ?_
  refine r1 rfl (p_mv rfl) ?_
  apply o_andx 6 (dj := 12) (d := 18) rfl
  · intro hg2_4
    have hg2_4_ := hg2_4
    try simp only [Bool.and_eq_true, Bool.or_eq_true, Bool.not_eq_true', decide_eq_true_eq, decide_eq_false_iff_not, Bool.or_eq_false_iff, Bool.and_eq_false_iff] at hg2_4_
    have xghg2_4 := Ext.refl hp4
    refine r1h rfl rfl rfl hg2_4 (p_mv rfl) ?_
    refine r1h rfl rfl rfl hg2_4 (p_idx runUnderlying25 sizeOf32 rfl rfl (by omega) (s4.isi (i := 0) (by omega))) ?_
    obtain ⟨cs6, R6, C6⟩ := s4.at_ (0) (by omega)
    obtain ⟨a6, c6, rfl, s6⟩ := R6
    have ns6 := s6.ll
    refine r1h rfl rfl rfl hg2_4 (p_ld isAgg32 rfl (C6 0 _ rfl)) ?_
    refine o1h rfl rfl rfl hg2_4 (s_bs runUnderlying32 sizeOf21 zeroValue21 rfl rfl rfl rfl rfl ?_)
    intro bb7 hb7 n7
    have nmb7 : ¬ N bb7 := fun hh => by have := st.lt _ hh; have := n7.at_; omega
    have s4 := s4.gr (.ext n7.ext)
    have s6 := s6.gr (.ext n7.ext)
    have st := st.ext n7.ext
    have xghg2_4 := xghg2_4.trans (n7.ext)
    have s7 : Sl r32 N hb7 (some ⟨bb7, 0, none⟩) 1 ([97] : List Int) := n7.sl nmb7 rfl (els_cons (by exact ⟨rfl, (by first | omega | decide | (dsimp only; omega))⟩) els_nil)
    refine o1h rfl rfl rfl hg2_4 (s_call call12 rfl (c_01Same N hb7 st.lt (gt ([[97], [8364]]) 0) [97] s6 s7) ?_)
    rintro _ hp8 ⟨rfl, x8⟩
    have s4 := s4.gr (.ext x8)
    have st := st.ext x8
    have xghg2_4 := xghg2_4.trans (x8)
    refine r1 rfl (p_pickt hg2_4 rfl rfl rfl) ?_
    exact o_nil ⟨rfl, xghg2_4, by repeat (first | exact le_r _ | refine le_c rfl ?_)⟩
  · intro hg2_4
    refine o1n rfl rfl rfl hg2_4 ?_
    refine o1n rfl rfl rfl hg2_4 ?_
    refine o1n rfl rfl rfl hg2_4 ?_
    refine o1n rfl rfl rfl hg2_4 ?_
    refine o1n rfl rfl rfl hg2_4 ?_
    refine r1 rfl (p_pickf hg2_4 rfl rfl rfl) ?_
    exact o_nil ⟨rfl, Ext.refl _, by repeat (first | exact le_r _ | refine le_c rfl ?_)⟩
  intro hx9 xx9
  have s4 := s4.gr (.ext xx9)
  have st := st.ext xx9
  refine r1 rfl (p_mv rfl) ?_
  apply o_andx 6 (dj := 19) (d := 25) rfl
  · intro hg2_11
    have hg2_11_ := hg2_11
    try simp only [Bool.and_eq_true, Bool.or_eq_true, Bool.not_eq_true', decide_eq_true_eq, decide_eq_false_iff_not, Bool.or_eq_false_iff, Bool.and_eq_false_iff] at hg2_11_
    have xghg2_11 := Ext.refl hx9
    refine r1h rfl rfl rfl hg2_11 (p_mv rfl) ?_
    refine r1h rfl rfl rfl hg2_11 (p_idx runUnderlying25 sizeOf32 rfl rfl (by omega) (s4.isi (i := 1) (by omega))) ?_
    obtain ⟨cs10, R10, C10⟩ := s4.at_ (1) (by omega)
    obtain ⟨a10, c10, rfl, s10⟩ := R10
    have ns10 := s10.ll
    refine r1h rfl rfl rfl hg2_11 (p_ld isAgg32 rfl (C10 0 _ rfl)) ?_
    refine o1h rfl rfl rfl hg2_11 (s_bs runUnderlying32 sizeOf21 zeroValue21 rfl rfl rfl rfl rfl ?_)
    intro bb11 hb11 n11
    have nmb11 : ¬ N bb11 := fun hh => by have := st.lt _ hh; have := n11.at_; omega
    have s10 := s10.gr (.ext n11.ext)
    have st := st.ext n11.ext
    have xghg2_11 := xghg2_11.trans (n11.ext)
    have s11 : Sl r32 N hb11 (some ⟨bb11, 0, none⟩) 1 ([8364] : List Int) := n11.sl nmb11 rfl (els_cons (by exact ⟨rfl, (by first | omega | decide | (dsimp only; omega))⟩) els_nil)
    refine o1h rfl rfl rfl hg2_11 (s_call call12 rfl (c_01Same N hb11 st.lt (gt ([[97], [8364]]) 1) [8364] s10 s11) ?_)
    rintro _ hp12 ⟨rfl, x12⟩
    have st := st.ext x12
    have xghg2_11 := xghg2_11.trans (x12)
    refine r1 rfl (p_pickt hg2_11 rfl rfl rfl) ?_
    exact o_nil ⟨rfl, xghg2_11, by repeat (first | exact le_r _ | refine le_c rfl ?_)⟩
  · intro hg2_11
    refine o1n rfl rfl rfl hg2_11 ?_
    refine o1n rfl rfl rfl hg2_11 ?_
    refine o1n rfl rfl rfl hg2_11 ?_
    refine o1n rfl rfl rfl hg2_11 ?_
    refine o1n rfl rfl rfl hg2_11 ?_
    refine r1 rfl (p_pickf hg2_11 rfl rfl rfl) ?_
    exact o_nil ⟨rfl, Ext.refl _, by repeat (first | exact le_r _ | refine le_c rfl ?_)⟩
  intro hx13 xx13
  have st := st.ext xx13
  refine r1 rfl (p_mv rfl) ?_
  apply o_andx 4 (dj := 26) (d := 30) rfl
  · intro hg2_18
    have hg2_18_ := hg2_18
    try simp only [Bool.and_eq_true, Bool.or_eq_true, Bool.not_eq_true', decide_eq_true_eq, decide_eq_false_iff_not, Bool.or_eq_false_iff, Bool.and_eq_false_iff] at hg2_18_
    have xghg2_18 := Ext.refl hx13
    refine o1h rfl rfl rfl hg2_18 (s_call call13 rfl (c_RunE N hx13 st.lt 2 2 ([] : List OpT) (Sl.nil (a := none) (cap := 0)) rfl (by exact gl.gr st.gr)) ?_)
    rintro _ hp14 ⟨a14_2, c14_2, rfl, p14_0, p14_1, s14_2, p14_3_0, p14_3_1, x14⟩
    have st := st.ext x14
    have xghg2_18 := xghg2_18.trans (x14)
    have ns14_2 := s14_2.ll
    refine r1h rfl rfl rfl hg2_18 (p_fd runUnderlying45 rfl isAgg3 rfl rfl) ?_
    refine r1h rfl rfl rfl hg2_18 (p_eql rfl rfl) ?_
    refine r1 rfl (p_pickt hg2_18 rfl rfl rfl) ?_
    exact o_nil ⟨rfl, xghg2_18, by repeat (first | exact le_r _ | refine le_c rfl ?_)⟩
  · intro hg2_18
    refine o1n rfl rfl rfl hg2_18 ?_
    refine o1n rfl rfl rfl hg2_18 ?_
    refine o1n rfl rfl rfl hg2_18 ?_
    refine r1 rfl (p_pickf hg2_18 rfl rfl rfl) ?_
    exact o_nil ⟨rfl, Ext.refl _, by repeat (first | exact le_r _ | refine le_c rfl ?_)⟩
  intro hx15 xx15
  have st := st.ext xx15
  refine r1 rfl (p_as rfl) ?_
  refine o_nil ?_
  refine x_ret (fin1 rfl ?_)
  exact ⟨rfl, st.x⟩
end Go.Proofs
