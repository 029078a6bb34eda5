import Derived.Test.YteeienbhmkiloaaGreatDoorP2
set_option linter.unusedSimpArgs false
set_option linter.unusedVariables false
namespace Go.Proofs
open Go.Lx Tryz

theorem rdr_mk2 {p : Nat} {M : Nat → Prop} {h : Hp} {ra oa ca : Option Addr} {rc oc cc n : Nat} {raw : List Int} {came : Nat} {done : List (List Int)} {cur : List Int} {ph : List Ph} {B1 B2 B3 : Nat}
    (l : Bl h p [.slice ra raw.length rc, .int .i64 came, .slice oa n oc] 49) (hn : n = done.length + 1) (mp : M p) (w1 : Ow B1 5 r8 M h ra rc raw) (w2 : Ow B2 32 rPh M h oa oc (ph ++ [(⟨ca, cur.length, cc⟩ : Ph)])) (w3 : Ow B3 21 r32 M h ca cc cur) (d : Dn M h ph done)
    (n1 : ¬ Ob ra rc p) (n2 : ¬ Ob oa oc p) (n3 : ¬ Ob ca cc p) (n4 : ∀ b, Ob ra rc b → ¬ Ob oa oc b) (n5 : ∀ b, Ob ra rc b → ¬ Ob ca cc b) (n6 : ∀ b, Ob oa oc b → ¬ Ob ca cc b) : (oRdr p).At (RdrR p ra rc oa oc ca cc) ⟨raw, came, done, cur⟩ M h := by
  subst hn; exact rdr_mk l mp w1 w2 w3 d n1 n2 n3 n4 n5 n6
theorem rdr_ge {p n : Nat} {ra oa ca : Option Addr} {rc oc cc : Nat} (p0 : n ≤ p) (p1 : ∀ b, Ob ra rc b → n ≤ b) (p2 : ∀ b, Ob oa oc b → n ≤ b) (p3 : ∀ b, Ob ca cc b → n ≤ b) : ∀ b, RdrR p ra rc oa oc ca cc b → n ≤ b := by
  rintro b (rfl | h | h | h)
  · exact p0
  · exact p1 b h
  · exact p2 b h
  · exact p3 b h
theorem Dn.push {M : Nat → Prop} {h : Hp} {ph : List Ph} {done : List (List Int)} {p : Ph} {l : List Int} (d : Dn M h ph done) (hn : p.n = l.length) (s : Sl r32 M h p.a p.c l) : Dn M h (ph ++ [p]) (done ++ [l]) := by
  refine ⟨by simp [d.ln], fun i l' hl => ?_⟩
  by_cases hi : i < done.length
  · rw [List.getElem?_append_left hi] at hl
    rw [List.getElem?_append_left (by rw [d.ln]; exact hi)]
    exact d.el i l' hl
  · rw [List.getElem?_append_right (by omega)] at hl
    rw [List.getElem?_append_right (by rw [d.ln]; omega), d.ln]
    have hz : i - done.length = 0 := by
      have := (List.getElem?_eq_some_iff.1 hl).1
      simp at this; omega
    rw [hz] at hl ⊢
    simp only [List.getElem?_cons_zero, Option.some.injEq] at hl ⊢
    subst hl
    exact ⟨p, rfl, hn, s⟩
theorem Dn.nil {M : Nat → Prop} {h : Hp} : Dn M h [] [] := ⟨rfl, fun i l hl => by simp at hl⟩
theorem Dn.sl {M : Nat → Prop} {h : Hp} {ph : List Ph} {done : List (List Int)} {a : Option Addr} {c : Nat} (d : Dn M h ph done) (s : Sl rPh M h a c ph) : Sl (sl r32) M h a c done := by
  have hne : done ≠ [] → ph ≠ [] := fun hn e => hn (List.length_eq_zero_iff.1 (by rw [← d.ln, e]; rfl))
  refine ⟨fun hn => s.is (hne hn), fun hn => s.lt (hne hn), fun hn => s.ro (hne hn), by rw [← d.ln]; exact s.cp, s.ln, by rw [← d.ln]; exact s.ll, fun i l hl => ?_⟩
  obtain ⟨p, h1, h2, h3⟩ := d.el i l hl
  obtain ⟨cs, e1, e2⟩ := s.el i p h1
  exact ⟨cs, ⟨p.a, p.c, by rw [show cs = _ from e1, h2], h3⟩, e2⟩
theorem _root_.Go.Lx.Ow.up {α : Type} {r : Rp α} {B B' : Nat} {T : TypeId} {M : Nat → Prop} {h : Hp} {a : Option Addr} {cap : Nat} {l : List α} (o : Ow B T r M h a cap l) (hb : ∀ b, Ob a cap b → B' ≤ b) : Ow B' T r M h a cap l := by
  rcases o with h | ⟨b, cs, rfl, hB, hm, hc, rr⟩
  · exact .inl h
  · exact .inr ⟨b, cs, rfl, hb b ⟨hc, rfl⟩, hm, hc, rr⟩

def rdrRead (r : Rdr) (o : OpT) : Rdr := if o.kind = 0 then rdrFeed r o.bytes else if o.kind = 1 then rdrFlush r else r
def rdrOp (r : Rdr) (o : OpT) : Rdr := if closesF o = true then ⟨(rdrRead r o).raw, (rdrRead r o).came, (rdrRead r o).done ++ [(rdrRead r o).cur], []⟩ else rdrRead r o
def rdrAll (l : List OpT) : Rdr := l.foldl rdrOp ⟨[], 0, [], []⟩
def groupsF (l : List OpT) : List (List Int) := (rdrAll l).done ++ [(rdrAll l).cur]
def bytesN (l : List OpT) : Nat := (l.map fun o => o.bytes.length).sum
theorem rdrAll_snoc (l : List OpT) (o : OpT) : rdrAll (l ++ [o]) = rdrOp (rdrAll l) o := by unfold rdrAll; rw [List.foldl_append]; rfl
theorem bytesN_snoc (l : List OpT) (o : OpT) : bytesN (l ++ [o]) = bytesN l + o.bytes.length := by unfold bytesN; simp
/-- What is so of a reader behind some operations. -/
structure RInv (n k : Nat) (r : Rdr) : Prop where
  came : r.came = (told r.raw).length
  raw : ∀ x ∈ r.raw, BU8 x
  rl : r.raw.length ≤ n
  cl : r.cur.length ≤ k
theorem told_nil : told [] = [] := by
  have e : partsW [] 0 = [] := by rw [partsW, dif_pos rfl]
  unfold told; rw [e]; simp
theorem RInv.read {n k : Nat} {r : Rdr} {o : OpT} (i : RInv n k r) (ho : ∀ x ∈ o.bytes, BU8 x) : RInv (n + o.bytes.length) (k + n + o.bytes.length) (rdrRead r o) := by
  have hc := i.cl
  have hr := i.rl
  unfold rdrRead
  split
  · refine ⟨rfl, fun x hx => (List.mem_append.1 hx).elim (i.raw x) (ho x), by simp only [rdrFeed, List.length_append]; omega, ?_⟩
    have := told_le (r.raw ++ o.bytes)
    rw [List.length_append] at this
    simp only [rdrFeed, List.length_append, List.length_map, List.length_drop]
    omega
  · split
    · refine ⟨by unfold rdrFlush; rw [told_nil]; rfl, fun x hx => absurd hx (by simp [rdrFlush]), by simp [rdrFlush], ?_⟩
      have := parts_len (s := r.raw) 0
      simp only [rdrFlush, List.length_append, List.length_map, List.length_drop]
      omega
    · exact ⟨i.came, i.raw, by omega, by omega⟩
theorem RInv.op {n k : Nat} {r : Rdr} {o : OpT} (i : RInv n k r) (ho : ∀ x ∈ o.bytes, BU8 x) : RInv (n + o.bytes.length) (k + n + o.bytes.length) (rdrOp r o) := by
  have j := i.read ho
  unfold rdrOp
  split
  · exact ⟨j.came, j.raw, j.rl, Nat.zero_le _⟩
  · exact j
theorem rdrAll_inv {l : List OpT} {B : Nat} (hB : bytesN l ≤ B) (hb : ∀ o ∈ l, ∀ x ∈ o.bytes, BU8 x) : ∀ i, i ≤ l.length → RInv (bytesN (l.take i)) (i * B) (rdrAll (l.take i))
  | 0, _ => by rw [List.take_zero]; exact ⟨by rw [show (rdrAll []).raw = [] from rfl, told_nil]; rfl, fun x hx => absurd hx (by simp [rdrAll]), Nat.zero_le _, Nat.zero_le _⟩
  | i + 1, hi => by
    have ih := rdrAll_inv hB hb i (by omega)
    have e : l.take (i + 1) = l.take i ++ [l[i]] := List.take_succ_eq_append_getElem (by omega)
    have hle : bytesN (l.take (i + 1)) ≤ bytesN l := by
      have h1 : bytesN l = bytesN (l.take (i + 1)) + bytesN (l.drop (i + 1)) := by
        unfold bytesN; rw [← List.sum_append, ← List.map_append, List.take_append_drop]
      omega
    have j := ih.op (o := l[i]) (hb _ (List.getElem_mem _))
    rw [e, bytesN_snoc] at hle
    rw [e, rdrAll_snoc, bytesN_snoc]
    refine ⟨j.came, j.raw, j.rl, Nat.le_trans j.cl ?_⟩
    rw [Nat.add_mul]; omega
theorem read_done (r : Rdr) (o : OpT) : (rdrRead r o).done = r.done := by
  unfold rdrRead
  split
  · rfl
  · split <;> rfl
theorem rdrAll_done (l : List OpT) : ∀ i, i ≤ l.length → (rdrAll (l.take i)).done.length ≤ i
  | 0, _ => by simp [rdrAll]
  | i + 1, hi => by
    have ih := rdrAll_done l i (by omega)
    rw [List.take_succ_eq_append_getElem (by omega), rdrAll_snoc]
    unfold rdrOp
    split
    · simp only [List.length_append, read_done, List.length_cons, List.length_nil]; omega
    · rw [read_done]; omega
theorem ops_bd {M : Nat → Prop} {h : Hp} {a : Option Addr} {cap : Nat} {l : List OpT} (s : Sl rOpT M h a cap l) : ∀ o ∈ l, ∀ x ∈ o.bytes, BU8 x := by
  intro o ho
  obtain ⟨i, hi⟩ := List.mem_iff_getElem?.1 ho
  obtain ⟨cs, ⟨a', c', e, p1, p2, p3, s'⟩, e2⟩ := s.el i o hi
  exact s'.bnd

theorem pl49 : ∀ w, ((#[{ name := "raw", type := 33, offset := 0, embedded := false, tag := "", pkgPath := "linotype/mirror", byteOffset := 0 }, { name := "came", type := 3, offset := 1, embedded := false, tag := "", pkgPath := "linotype/mirror", byteOffset := 24 }, { name := "out", type := 25, offset := 2, embedded := false, tag := "", pkgPath := "linotype/mirror", byteOffset := 32 }] : Array Field).mapM (fun f => do return (f.offset, ← sizeOf f.type)) : Sem (Array (Nat × Nat))).run prog w = .ok (([(0, 1), (1, 1), (2, 1)] : List (Nat × Nat))).toArray w := fun _ => by kernel_rfl
theorem c_Groups (N : Nat → Prop) (h : Hp) (hN : ∀ b, N b → b < h.size) (l : List OpT) {a_l : Option Addr} {c_l : Nat} (s_l : Sl rOpT N h a_l c_l l) (hl : l.length ≤ 60) (hb : bytesN l ≤ 1000) (gl : Gl GL N h) : C prog 6 [.slice a_l l.length c_l] h (fun v h' => ∃ (ar : Option Addr) (cr : Nat), v = .slice ar (groupsF l).length cr ∧ Sl (sl r32) N h' ar cr (groupsF l) ∧ Ext h h') := by
  have st := St.init hN
  have ns_l := s_l.ll
  have hbd := ops_bd s_l
  have hall := rdrAll_inv hb hbd
  refine enter func6 rfl ntmps6 results6 rfl rfl ?_
  refine x_seq ?_
  refine x_region ?_
  refine r1 rfl (p_as rfl) ?_
  refine o_nil ?_
  refine x_seq ?_
  refine x_region ?_
  refine o1 rfl (s_mk runUnderlying25 sizeOf32 typeInfo32 zeroValue32 rfl rfl rfl rfl rfl rfl (by omega) (n' := (List.replicate 1 (⟨none, 0, 0⟩ : Ph)).length) (c' := 1) (by simp) (by try simp) ?_)
  intro bb1 hb1 n1
  obtain ⟨M1, nm1⟩ := nm (M := N) n1
  have w1 : Ow h.size 32 rPh M1 hb1 (some ⟨bb1, 0, none⟩) 1 (List.replicate 1 (⟨none, 0, 0⟩ : Ph)) := n1.owMk nm1 (n1.ge st.kp) rfl (by omega) (by omega)
  have st := st.new n1 nm1
  refine r1 rfl (p_bs runUnderlying49 zeroValue49 pl49 rfl) ?_
  show O _ _ _ _ _ ((_, .agg #[_, _, _]) :: _) _ _
  refine o1 rfl (s_box rfl rfl ?_)
  intro b8 hb2 n2
  obtain ⟨M2, nm2⟩ := nm (M := M1) n2
  have gb8 : h.size ≤ b8 := n2.ge st.kp
  have nob8_w1 : ¬ Ob (some ⟨bb1, 0, none⟩) 1 b8 := fun hh => by have := w1.lt _ hh; have := n2.at_; omega
  have w1 := w1.kp (nm2.gr n2) nm2.sub (n2.ext) fun _ _ hh => hh
  have st := st.new n2 nm2
  have lb8 := n2.bl
  have mb8 := nm2.mem
  refine r1 rfl (p_as rfl) ?_
  refine o_nil ?_
  refine x_seq ?_
  refine x_seq ?_
  refine x_region ?_
  refine r1 rfl (p_mv rfl) ?_
  refine r1 rfl (p_len runUnderlying22 rfl) ?_
  refine r1 rfl (p_mv rfl) ?_
  refine o_nil ?_
  refine x_block ?_
  have o_r : (oRdr b8).At (RdrR b8 none 0 (some ⟨bb1, 0, none⟩) 1 none 0) ⟨[], 0, [], []⟩ M2 hb2 := rdr_mk (ph := []) (cur := []) (raw := []) (came := 0) (done := []) lb8 mb8 (.nil (B := 0)) w1 (.nil (B := 0)) Dn.nil (nob _) nob8_w1 (nob _) (fun b hb => (nob b hb).elim) (fun b hb => (nob b hb).elim) (fun b _ => nob b)
  have go0 : ∀ b, RdrR b8 none 0 (some ⟨bb1, 0, none⟩) 1 none 0 b → h.size ≤ b := rdr_ge gb8 (fun b hb => (nob b hb).elim) w1.ge (fun b hb => (nob b hb).elim)
  refine x_loope (σ := Nat × (Nat → Prop) × (Nat → Prop)) (fun st_ E0 => match st_ with | (i, RL_b8, M_) => (11, .int .i64 (i : Int)) :: E0) [(3, _), (9, _), (10, _)] (fun st_ h' => match st_ with | (i, RL_b8, M_) => St N h (fun _ => False) M_ h' ∧ (oRdr b8).At RL_b8 (rdrAll (l.take i)) M_ h' ∧ (∀ b, RL_b8 b → h.size ≤ b) ∧ (i ≤ l.length)) (fun st_ => match st_ with | (i, RL_b8, M_) => l.length - i) (0, (RdrR b8 none 0 (some ⟨bb1, 0, none⟩) 1 none 0), M2) ⟨⟨rfl, rfl, rfl, rfl, trivial⟩, rfl⟩ ?_ ?_
  · skip
    refine ⟨st, o_r, go0, ?_⟩
    · omega
  rintro ⟨i, RL_b8, M_⟩ h' ⟨st, o_r, goL_o_r, hi0⟩
  show X _ _ _ _ (_ :: _) _ _
  have ri := hall i hi0
  refine x_seq ?_
  refine x_region ?_
  refine r1 rfl (p_lss rfl rfl) ?_
  refine o_nil ?_
  refine x_seq ?_
  refine x_cond rfl (fun hc => ?_) (fun hc => ?_)
  · skip
    try simp only [Bool.and_eq_true, Bool.or_eq_true, Bool.not_eq_true', decide_eq_true_eq, decide_eq_false_iff_not, Bool.or_eq_false_iff, Bool.and_eq_false_iff, Bool.not_eq_false'] at hc
    have hlt : i < l.length := by omega
    have eg : gt l (i : Int) = l[i] := gt_lt hlt
    have e1 : l.take (i + 1) = l.take i ++ [gt l (i : Int)] := by rw [eg]; exact List.take_succ_eq_append_getElem (by omega)
    have hlg : bytesN (l.take (i + 1)) ≤ bytesN l := by
      have h1 : bytesN l = bytesN (l.take (i + 1)) + bytesN (l.drop (i + 1)) := by
        unfold bytesN; rw [← List.sum_append, ← List.map_append, List.take_append_drop]
      omega
    have ob : ∀ x ∈ (gt l (i : Int)).bytes, BU8 x := hbd _ (by rw [eg]; exact List.getElem_mem _)
    rw [e1, bytesN_snoc] at hlg
    have hrl := ri.rl
    have hcl := ri.cl
    have hdl : (rdrRead (rdrAll (l.take i)) (gt l (i : Int))).done.length ≤ i := by rw [read_done]; exact rdrAll_done l i hi0
    have hi60 : i * 1000 ≤ 60000 := by omega
    refine x_skip ?_
    refine x_seq ?_
    refine x_block ?_
    refine x_seq ?_
    refine x_region ?_
    refine r1 rfl (p_idx runUnderlying22 sizeOf38 rfl rfl (by omega) ((s_l.gr st.gr).isi (i := (i : Int)) (by omega))) ?_
    obtain ⟨cs3, R3, C3⟩ := (s_l.gr st.gr).at_ ((i : Int)) (by omega)
    obtain ⟨a3_3, c3_3, rfl, p3_0, p3_1, p3_2, s3_3⟩ := R3
    have ns3_3 := s3_3.ll
    refine r1 rfl (p_lda isAgg38 rfl C3 sizeOf38) ?_
    refine o1 rfl (s_al zeroValue38 rfl ?_)
    intro b5 hb4 n4
    obtain ⟨M4, nm4⟩ := nm (M := M_) n4
    have gb5 : h.size ≤ b5 := n4.ge st.kp
    have nob5_o_r : ¬ RL_b8 b5 := fun hh => by have := Oj.lt _ o_r _ hh; have := n4.at_; omega
    have s3_3 := s3_3.gr (nm4.gr n4)
    have o_r := Oj.gx o_r (nm4.gr n4) nm4.sub (n4.ext)
    have st := st.new n4 nm4
    have lb5 := n4.bl
    have mb5 := nm4.mem
    refine o0 (s_sta rfl rfl sizeOf38 rfl lb5 rfl ?_)
    intro hu5 u5
    have s3_3 := s3_3.gr (.upd u5 mb5)
    have o_r := Oj.upd o_r u5 mb5 nob5_o_r
    have lb5 := u5.bl
    have st := st.upd u5 (.inl gb5)
    replace lb5 : Bl hu5 b5 [_, _, _, _] _ := lb5
    refine o_nil ?_
    refine x_cute (σ := (Nat → Prop) × (Nat → Prop)) (fun st_ E0 => match st_ with | (RL_b8, M_) => E0) [(3, .pointer (some ⟨b8, 0, none⟩)), (5, .pointer (some ⟨b5, 0, none⟩)), (9, .slice a_l l.length c_l), (10, .int .i64 ((l.length : Nat) : Int)), (11, .int .i64 (i : Int))] (fun st_ h' => match st_ with | (RL_b8, M_) => St N h (fun _ => False) M_ h' ∧ (oRdr b8).At RL_b8 (rdrRead (rdrAll (l.take i)) (gt l (i : Int))) M_ h' ∧ Sl r8 M_ h' a3_3 c3_3 ((gt l (i : Int)).bytes) ∧ Bl h' b5 [.int .i64 ((gt l (i : Int)).kind), .int .i64 ((gt l (i : Int)).a), .int .i64 ((gt l (i : Int)).b), .slice a3_3 ((gt l (i : Int)).bytes).length c3_3] 38 ∧ M_ b5 ∧ (¬ RL_b8 b5) ∧ (∀ b, RL_b8 b → h.size ≤ b)) ?_ ?_
    · skip
      refine x_block ?_
      refine x_seq ?_
      refine x_region ?_
      refine r1 rfl (p_fld runUnderlying38 rfl sizeOf3 (by decide) rfl rfl) ?_
      refine r1 rfl (p_ld isAgg3 rfl (lb5.get rfl)) ?_
      refine r1 rfl (p_eql rfl rfl) ?_
      refine r1 rfl (p_as rfl) ?_
      refine o_nil ?_
      refine x_cond rfl (fun hk => ?_) (fun hk => ?_)
      · skip
        try simp only [Bool.and_eq_true, Bool.or_eq_true, Bool.not_eq_true', decide_eq_true_eq, decide_eq_false_iff_not, Bool.or_eq_false_iff, Bool.and_eq_false_iff, Bool.not_eq_false'] at hk
        have er : rdrRead (rdrAll (l.take i)) (gt l (i : Int)) = rdrFeed (rdrAll (l.take i)) (gt l (i : Int)).bytes := by unfold rdrRead; rw [if_pos hk]
        refine x_region ?_
        refine r1 rfl (p_mv rfl) ?_
        refine r1 rfl (p_fld runUnderlying38 rfl sizeOf33 (by decide) rfl rfl) ?_
        refine r1 rfl (p_ld isAgg33 rfl (lb5.get rfl)) ?_
        refine o1 rfl (s_call call14 rfl (c_rfeed M4 hu5 st.lt (rdrAll (l.take i)) ((gt l (i : Int)).bytes) o_r s3_3 (by first | omega | (simp only [List.length_append, List.length_cons, List.length_nil, List.length_map, List.length_take, List.length_drop, List.length_replicate]; omega)) (by rw [ri.came]; exact told_mono fun x hx => (List.mem_append.1 hx).elim (ri.raw x) (ob x)) (by first | omega | (simp only [List.length_append, List.length_cons, List.length_nil, List.length_map, List.length_take, List.length_drop, List.length_replicate]; omega))) ?_)
        rintro _ hp6 ⟨M6, R6_0, rfl, gm6, od6_0, oo6_0⟩
        have nm6_0_b5 : ¬ R6_0 b5 := fun hh => nob5_o_r (od6_0 _ lb5.lt hh)
        have go6_0 : ∀ b, R6_0 b → h.size ≤ b := fun b hb => if hlt : b < hu5.size then goL_o_r b (od6_0 b hlt hb) else by have := st.kp.size; omega
        have s3_3 := s3_3.gr gm6.gr
        have lb5 := gm6.kp.bl nob5_o_r lb5
        have mb5 := gm6.sub _ mb5
        have st := st.gm gm6 (fun b hb => .inl (goL_o_r b hb))
        have o_r := oo6_0
        refine o_nil ?_
        rw [show (rdrFeed (rdrAll (l.take i)) ((gt l (i : Int)).bytes)) = (rdrRead (rdrAll (l.take i)) (gt l (i : Int))) from er.symm] at o_r
        refine ⟨(R6_0, M6), ⟨⟨rfl, rfl, rfl, rfl, rfl, trivial⟩, rfl⟩, ?_⟩
        · skip
          refine ⟨st, o_r, s3_3, lb5, mb5, nm6_0_b5, go6_0⟩
      · skip
        try simp only [Bool.and_eq_true, Bool.or_eq_true, Bool.not_eq_true', decide_eq_true_eq, decide_eq_false_iff_not, Bool.or_eq_false_iff, Bool.and_eq_false_iff, Bool.not_eq_false'] at hk
        refine x_seq ?_
        refine x_region ?_
        refine r1 rfl (p_fld runUnderlying38 rfl sizeOf3 (by decide) rfl rfl) ?_
        refine r1 rfl (p_ld isAgg3 rfl (lb5.get rfl)) ?_
        refine r1 rfl (p_eql rfl rfl) ?_
        refine r1 rfl (p_as rfl) ?_
        refine o_nil ?_
        refine x_cond rfl (fun hk1 => ?_) (fun hk1 => ?_)
        · skip
          try simp only [Bool.and_eq_true, Bool.or_eq_true, Bool.not_eq_true', decide_eq_true_eq, decide_eq_false_iff_not, Bool.or_eq_false_iff, Bool.and_eq_false_iff, Bool.not_eq_false'] at hk1
          have er : rdrRead (rdrAll (l.take i)) (gt l (i : Int)) = rdrFlush (rdrAll (l.take i)) := by unfold rdrRead; rw [if_neg hk, if_pos hk1]
          have htp : (rdrAll (l.take i)).came ≤ (partsW (rdrAll (l.take i)).raw 0).length := by
            rw [ri.came]; unfold told; split
            · rw [List.length_take]; omega
            · exact Nat.le_refl _
          refine x_region ?_
          refine r1 rfl (p_mv rfl) ?_
          refine o1 rfl (s_call call15 rfl (c_rflush M4 hu5 st.lt (rdrAll (l.take i)) o_r (by first | omega | (simp only [List.length_append, List.length_cons, List.length_nil, List.length_map, List.length_take, List.length_drop, List.length_replicate]; omega)) (by first | omega | (simp only [List.length_append, List.length_cons, List.length_nil, List.length_map, List.length_take, List.length_drop, List.length_replicate]; omega)) (by first | omega | (simp only [List.length_append, List.length_cons, List.length_nil, List.length_map, List.length_take, List.length_drop, List.length_replicate]; omega))) ?_)
          rintro _ hp7 ⟨M7, R7_0, rfl, gm7, od7_0, oo7_0⟩
          have nm7_0_b5 : ¬ R7_0 b5 := fun hh => nob5_o_r (od7_0 _ lb5.lt hh)
          have go7_0 : ∀ b, R7_0 b → h.size ≤ b := fun b hb => if hlt : b < hu5.size then goL_o_r b (od7_0 b hlt hb) else by have := st.kp.size; omega
          have s3_3 := s3_3.gr gm7.gr
          have lb5 := gm7.kp.bl nob5_o_r lb5
          have mb5 := gm7.sub _ mb5
          have st := st.gm gm7 (fun b hb => .inl (goL_o_r b hb))
          have o_r := oo7_0
          refine o_nil ?_
          rw [show (rdrFlush (rdrAll (l.take i))) = (rdrRead (rdrAll (l.take i)) (gt l (i : Int))) from er.symm] at o_r
          refine ⟨(R7_0, M7), ⟨⟨rfl, rfl, rfl, rfl, rfl, trivial⟩, rfl⟩, ?_⟩
          · skip
            refine ⟨st, o_r, s3_3, lb5, mb5, nm7_0_b5, go7_0⟩
        · skip
          try simp only [Bool.and_eq_true, Bool.or_eq_true, Bool.not_eq_true', decide_eq_true_eq, decide_eq_false_iff_not, Bool.or_eq_false_iff, Bool.and_eq_false_iff, Bool.not_eq_false'] at hk1
          have er : rdrRead (rdrAll (l.take i)) (gt l (i : Int)) = rdrAll (l.take i) := by unfold rdrRead; rw [if_neg hk, if_neg hk1]
          rw [show (rdrAll (l.take i)) = (rdrRead (rdrAll (l.take i)) (gt l (i : Int))) from er.symm] at o_r
          refine x_skip ?_
          refine ⟨(RL_b8, M4), ⟨⟨rfl, rfl, rfl, rfl, rfl, trivial⟩, rfl⟩, ?_⟩
          · skip
            refine ⟨st, o_r, s3_3, lb5, mb5, nob5_o_r, goL_o_r⟩
    · skip
      rintro ⟨RL_b8, M_⟩ h' ⟨st, o_r, s3_3, lb5, mb5, noo_r_b5, goL_o_r⟩
      dsimp only
      have eo : rdrAll (l.take (i + 1)) = rdrOp (rdrAll (l.take i)) (gt l (i : Int)) := by rw [e1, rdrAll_snoc]
      refine x_seq ?_
      refine x_region ?_
      refine r1 rfl (p_lda isAgg38 rfl (lb5.gets rfl) sizeOf38) ?_
      refine o1 rfl (s_call call16 rfl (c_closes M_ h' st.lt (gt l (i : Int)) p3_0 p3_1 p3_2 s3_3 (by exact gl.gr st.gr)) ?_)
      rintro _ hp8 ⟨rfl, x8⟩
      have s3_3 := s3_3.gr (.ext x8)
      have o_r := Oj.ext o_r x8
      have lb5 := lb5.lift (x8)
      have st := st.ext x8
      refine o_nil ?_
      refine x_cond rfl (fun hcl0 => ?_) (fun hcl0 => ?_)
      · skip
        try simp only [Bool.and_eq_true, Bool.or_eq_true, Bool.not_eq_true', decide_eq_true_eq, decide_eq_false_iff_not, Bool.or_eq_false_iff, Bool.and_eq_false_iff, Bool.not_eq_false'] at hcl0
        have er : rdrOp (rdrAll (l.take i)) (gt l (i : Int)) = ⟨(rdrRead (rdrAll (l.take i)) (gt l (i : Int))).raw, (rdrRead (rdrAll (l.take i)) (gt l (i : Int))).came, (rdrRead (rdrAll (l.take i)) (gt l (i : Int))).done ++ [(rdrRead (rdrAll (l.take i)) (gt l (i : Int))).cur], []⟩ := by unfold rdrOp; rw [if_pos hcl0]
        generalize rdrRead (rdrAll (l.take i)) (gt l (i : Int)) = rr at *
        replace o_r : (oRdr b8).At RL_b8 rr M_ hp8 := o_r
        obtain ⟨ra, rc, oa, oc, ca, cc, ph, lb8, wr, wo, wc, dn, ⟨qr0, qr1, qr2, qr3⟩, ⟨dz1, dz2, dz3, dz4, dz5, dz6⟩, rm⟩ := o_r
        have mb8 := (rm _ qr0).1
        have goA := goL_o_r
        have wr := wr.up fun b hb => goA b (qr1 b hb)
        have wo := wo.up fun b hb => goA b (qr2 b hb)
        have wc := wc.up fun b hb => goA b (qr3 b hb)
        have hph := dn.ln
        have hwo := wo.len'
        rw [show rr.done.length + 1 = (ph ++ [(⟨ca, rr.cur.length, cc⟩ : Ph)]).length by simp [hph]] at lb8
        have neo9_b5 : b8 ≠ b5 := fun e => noo_r_b5 (e ▸ qr0)
        have neo9_wr_b5 : ¬ Ob ra rc b5 := fun hh => noo_r_b5 (qr1 _ hh)
        have neo9_wo_b5 : ¬ Ob oa oc b5 := fun hh => noo_r_b5 (qr2 _ hh)
        have neo9_wc_b5 : ¬ Ob ca cc b5 := fun hh => noo_r_b5 (qr3 _ hh)
        refine x_region ?_
        refine r1 rfl (p_mv rfl) ?_
        refine r1 rfl (p_mv rfl) ?_
        refine r1 rfl (p_nc rfl) ?_
        refine r1 rfl (p_fld runUnderlying49 rfl sizeOf25 (by decide) rfl rfl) ?_
        refine r1 rfl (p_ld isAgg25 rfl (lb8.get rfl)) ?_
        refine o1 rfl (s_bs runUnderlying25 sizeOf32 zeroValue32 rfl rfl rfl rfl rfl ?_)
        intro bb10 hb10 n10
        have nmb10 : ¬ M_ bb10 := fun hh => by have := st.lt _ hh; have := n10.at_; omega
        have wc := wc.ext n10.ext
        have wo := wo.ext n10.ext
        have s3_3 := s3_3.gr (.ext n10.ext)
        have wr := wr.ext n10.ext
        have dn := dn.gr (.ext n10.ext)
        have lb5 := lb5.lift (n10.ext)
        have lb8 := lb8.lift (n10.ext)
        have st := st.ext n10.ext
        have s10 : Sl rPh M_ hb10 (some ⟨bb10, 0, none⟩) 1 ([⟨none, 0, 0⟩] : List Ph) := n10.sl nmb10 rfl (els_cons (by exact rfl) els_nil)
        refine o1 rfl (s_app runUnderlying25 runUnderlying25 sizeOf32 typeInfo32 zeroValue32 rfl rfl rfl rfl rfl rfl wo s10 (Nat.le_trans st.kp.size (Nat.le_refl _)) (by simp only [List.length_append, List.length_cons, List.length_nil] at hwo ⊢; omega) ?_)
        intro a12 c12 hp12 ap12 wf12
        obtain ⟨M12, am12⟩ := am ap12 wo.mem
        have now12_b5 : ¬ Ob a12 c12 b5 := fun hh => neo9_wo_b5 (ap12.old _ lb5.lt hh)
        have now12_b8 : ¬ Ob a12 c12 b8 := fun hh => dz2 (ap12.old _ lb8.lt hh)
        have nop12_wc : ∀ b, Ob ca cc b → ¬ Ob a12 c12 b := fun b hb hh => (fun b hb hh => dz6 b hh hb) b hb (ap12.old _ (wc.lt b hb) hh)
        have nop12_wr : ∀ b, Ob ra rc b → ¬ Ob a12 c12 b := fun b hb hh => dz4 b hb (ap12.old _ (wr.lt b hb) hh)
        have w12_ := wf12 M12 am12
        have wc := wc.kp (am12.gr ap12 wo.mem) am12.sub ap12.kp (fun b hb hh => dz6 b hh hb)
        have s3_3 := s3_3.gr (am12.gr ap12 wo.mem)
        have wr := wr.kp (am12.gr ap12 wo.mem) am12.sub ap12.kp dz4
        have dn := dn.gr (am12.gr ap12 wo.mem)
        have lb5 := ap12.kp.bl neo9_wo_b5 lb5
        have mb5 := am12.sub _ mb5
        have lb8 := ap12.kp.bl dz2 lb8
        have mb8 := am12.sub _ mb8
        have st := st.app ap12 am12 (fun b hb => .inl (wo.ge b hb))
        have w12 := w12_
        refine r1 rfl (p_nc rfl) ?_
        refine r1 rfl (p_fld runUnderlying49 rfl sizeOf25 (by decide) rfl rfl) ?_
        refine o0 (s_sto sizeOf25 rfl rfl rfl lb8 rfl ?_)
        intro hu13 u13
        have wc := wc.upd u13 mb8 dz3
        have s3_3 := s3_3.gr (.upd u13 mb8)
        have wr := wr.upd u13 mb8 dz1
        have w12 := w12.upd u13 mb8 now12_b8
        have dn := dn.gr (.upd u13 mb8)
        have lb5 := u13.kp.bl (Ne.symm neo9_b5) lb5
        have lb8 := u13.bl
        have st := st.upd u13 (.inl (goA _ qr0))
        replace lb8 : Bl hu13 b8 [_, _, _] _ := lb8
        refine o_nil ?_
        refine x_region ?_
        refine r1 rfl (p_add64 rfl rfl (by omega)) ?_
        refine r1 rfl (p_mv rfl) ?_
        refine o_nil ?_
        obtain ⟨M14, fz14, st14, s14⟩ := wc.fz st hN
        have s3_3 := s3_3.mono fz14.sub
        have wr := wr.fzo fz14 dz5
        have w12 := w12.fzo fz14 (fun b hb hh => nop12_wc b hh hb)
        have dn := dn.mono fz14.sub
        have mb5 := fz14.keep _ mb5 neo9_wc_b5
        have mb8 := fz14.keep _ mb8 dz3
        have st := st14
        have dn2 := dn.push (p := ⟨ca, rr.cur.length, cc⟩) rfl s14
        have o_r : (oRdr b8).At (RdrR b8 ra rc a12 c12 none 0) ⟨rr.raw, rr.came, rr.done ++ [rr.cur], []⟩ M14 hu13 := rdr_mk2 (cur := []) lb8 (by simp [hph]) mb8 wr w12 (.nil (B := 0)) dn2 dz1 now12_b8 (nob _) nop12_wr (fun b _ => nob b) (fun b _ => nob b)
        have go1 : ∀ b, RdrR b8 ra rc a12 c12 none 0 b → h.size ≤ b := rdr_ge (goA _ qr0) (fun b hb => goA b (qr1 b hb)) w12.ge (fun b hb => (nob b hb).elim)
        rw [show (⟨rr.raw, rr.came, rr.done ++ [rr.cur], []⟩ : Rdr) = (rdrAll (l.take (i + 1))) from (eo.trans er).symm] at o_r
        refine ⟨(i + 1, (RdrR b8 ra rc a12 c12 none 0), M14), ⟨⟨(congrArg (fun z => some (Value.int .i64 z)) (by omega)), rfl, rfl, rfl, trivial⟩, rfl⟩, ?_, ?_⟩
        · skip
          refine ⟨st, o_r, go1, ?_⟩
          · omega
        · (try dsimp only); omega
      · skip
        try simp only [Bool.and_eq_true, Bool.or_eq_true, Bool.not_eq_true', decide_eq_true_eq, decide_eq_false_iff_not, Bool.or_eq_false_iff, Bool.and_eq_false_iff, Bool.not_eq_false'] at hcl0
        have er : rdrOp (rdrAll (l.take i)) (gt l (i : Int)) = rdrRead (rdrAll (l.take i)) (gt l (i : Int)) := by unfold rdrOp; rw [if_neg (by rw [hcl0]; simp)]
        refine x_skip ?_
        refine x_region ?_
        refine r1 rfl (p_add64 rfl rfl (by omega)) ?_
        refine r1 rfl (p_mv rfl) ?_
        refine o_nil ?_
        rw [show (rdrRead (rdrAll (l.take i)) (gt l (i : Int))) = (rdrAll (l.take (i + 1))) from (eo.trans er).symm] at o_r
        refine ⟨(i + 1, RL_b8, M_), ⟨⟨(congrArg (fun z => some (Value.int .i64 z)) (by omega)), rfl, rfl, rfl, trivial⟩, rfl⟩, ?_, ?_⟩
        · skip
          refine ⟨st, o_r, goL_o_r, ?_⟩
          · omega
        · (try dsimp only); omega
  · skip
    try simp only [Bool.and_eq_true, Bool.or_eq_true, Bool.not_eq_true', decide_eq_true_eq, decide_eq_false_iff_not, Bool.or_eq_false_iff, Bool.and_eq_false_iff, Bool.not_eq_false'] at hc
    have el : l.take i = l := List.take_of_length_le (by omega)
    have ri := hall i hi0
    have hrl := ri.rl
    have hcl := ri.cl
    rw [show (rdrAll (l.take i)) = (rdrAll l) from (by rw [el])] at o_r
    rw [el] at *
    refine x_exit ?_
    refine x_seq ?_
    generalize hrr : rdrAll l = rr at *
    replace o_r : (oRdr b8).At RL_b8 rr M_ h' := o_r
    obtain ⟨ra, rc, oa, oc, ca, cc, ph, lb8, wr, wo, wc, dn, ⟨qr0, qr1, qr2, qr3⟩, ⟨dz1, dz2, dz3, dz4, dz5, dz6⟩, rm⟩ := o_r
    have mb8 := (rm _ qr0).1
    have goA := goL_o_r
    have wr := wr.up fun b hb => goA b (qr1 b hb)
    have wo := wo.up fun b hb => goA b (qr2 b hb)
    have wc := wc.up fun b hb => goA b (qr3 b hb)
    rw [show rr.done.length + 1 = (rr.done ++ [rr.cur]).length by simp] at lb8
    obtain ⟨M16, fz16, st16, s16⟩ := wc.fz st hN
    have wo := wo.fzo fz16 dz6
    have dn := dn.mono fz16.sub
    have mb8 := fz16.keep _ mb8 dz3
    have st := st16
    have dn2 := dn.push (p := ⟨ca, rr.cur.length, cc⟩) rfl s16
    obtain ⟨M17, fz17, st17, s17⟩ := wo.fz st hN
    have s16 := s16.mono fz17.sub
    have dn2 := dn2.mono fz17.sub
    have mb8 := fz17.keep _ mb8 dz2
    have st := st17
    have so := dn2.sl s17
    refine x_region ?_
    refine r1 rfl (p_mv rfl) ?_
    refine r1 rfl (p_nc rfl) ?_
    refine r1 rfl (p_fld runUnderlying49 rfl sizeOf25 (by decide) rfl rfl) ?_
    refine r1 rfl (p_ld isAgg25 rfl (lb8.get rfl)) ?_
    refine r1 rfl (p_as rfl) ?_
    refine o_nil ?_
    refine x_ret (fin1 rfl ?_)
    have eg : groupsF l = rr.done ++ [rr.cur] := by unfold groupsF; rw [hrr]
    rw [eg]
    exact ⟨_, _, rfl, (so.out st), st.x⟩
end Go.Proofs
