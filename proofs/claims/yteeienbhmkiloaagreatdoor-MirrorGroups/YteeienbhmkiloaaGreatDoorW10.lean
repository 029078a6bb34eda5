import Derived.Test.YteeienbhmkiloaaGreatDoorW9
import Derived.Test.YteeienbhmkiloaaGreatDoorLZ
set_option linter.unusedSimpArgs false
set_option linter.unusedVariables false
namespace Go.Proofs
open Go.Lx Tryz

/-- A reader: raw bytes, how many parts of them came, the groups that are closed, and the one in hand. -/
structure Rdr where
  raw : List Int
  came : Nat
  done : List (List Int)
  cur : List Int
/-- The closed groups. -/
structure Dn (M : Nat → Prop) (h : Hp) (ph : List Ph) (done : List (List Int)) : Prop where
  ln : ph.length = done.length
  el : ∀ (i : Nat) (l : List Int), done[i]? = some l → ∃ p : Ph, ph[i]? = some p ∧ p.n = l.length ∧ Sl r32 M h p.a p.c l
theorem Dn.gr {M M' : Nat → Prop} {h h' : Hp} {ph : List Ph} {done : List (List Int)} (d : Dn M h ph done) (g : Gr M h M' h') : Dn M' h' ph done :=
  ⟨d.ln, fun i l hl => by obtain ⟨p, h1, h2, h3⟩ := d.el i l hl; exact ⟨p, h1, h2, h3.gr g⟩⟩
theorem Dn.ext {M : Nat → Prop} {h h' : Hp} {ph : List Ph} {done : List (List Int)} (d : Dn M h ph done) (x : Ext h h') : Dn M h' ph done := d.gr (.ext x)
theorem Dn.mono {M M' : Nat → Prop} {h : Hp} {ph : List Ph} {done : List (List Int)} (d : Dn M h ph done) (hm : ∀ b, M' b → M b) : Dn M' h ph done := d.gr ⟨Kp.refl _ _, fun b _ h => hm b h⟩
def RdrR (p : Nat) (ra : Option Addr) (rc : Nat) (oa : Option Addr) (oc : Nat) (ca : Option Addr) (cc : Nat) (b : Nat) : Prop := b = p ∨ Ob ra rc b ∨ Ob oa oc b ∨ Ob ca cc b
def RdrAt (p : Nat) (R : Nat → Prop) (x : Rdr) (M : Nat → Prop) (h : Hp) : Prop :=
  ∃ ra rc oa oc ca cc ph, Bl h p [.slice ra x.raw.length rc, .int .i64 x.came, .slice oa (x.done.length + 1) oc] 49 ∧ Ow 0 5 r8 M h ra rc x.raw ∧ Ow 0 32 rPh M h oa oc (ph ++ [(⟨ca, x.cur.length, cc⟩ : Ph)]) ∧ Ow 0 21 r32 M h ca cc x.cur ∧ Dn M h ph x.done ∧
    (R p ∧ (∀ b, Ob ra rc b → R b) ∧ (∀ b, Ob oa oc b → R b) ∧ (∀ b, Ob ca cc b → R b)) ∧ (¬ Ob ra rc p ∧ ¬ Ob oa oc p ∧ ¬ Ob ca cc p ∧ (∀ b, Ob ra rc b → ¬ Ob oa oc b) ∧ (∀ b, Ob ra rc b → ¬ Ob ca cc b) ∧ (∀ b, Ob oa oc b → ¬ Ob ca cc b)) ∧ (∀ b, R b → M b ∧ b < h.size)
def oRdr (p : Nat) : Oj Rdr where
  At := RdrAt p
  stab := by
    rintro R M M' W x h h' ⟨ra, rc, oa, oc, ca, cc, ph, l, w1, w2, w3, d, ⟨r0, r1, r2, r3⟩, n, m⟩ g s k hW
    exact ⟨ra, rc, oa, oc, ca, cc, ph, k.bl (hW p r0) l, w1.kp g s k fun b hb => hW b (r1 b hb), w2.kp g s k fun b hb => hW b (r2 b hb), w3.kp g s k fun b hb => hW b (r3 b hb), d.gr g, ⟨r0, r1, r2, r3⟩, n,
      fun b hb => ⟨s b (m b hb).1, Nat.lt_of_lt_of_le (m b hb).2 k.size⟩⟩
  lt := by
    rintro R M x h ⟨ra, rc, oa, oc, ca, cc, ph, l, w1, w2, w3, d, r, n, m⟩ b hb
    exact (m b hb).2
  mem := by
    rintro R M x h ⟨ra, rc, oa, oc, ca, cc, ph, l, w1, w2, w3, d, r, n, m⟩ b hb
    exact (m b hb).1
  sh := by
    rintro R M M' x h ⟨ra, rc, oa, oc, ca, cc, ph, l, w1, w2, w3, d, ⟨r0, r1, r2, r3⟩, n, m⟩ hs hm
    exact ⟨ra, rc, oa, oc, ca, cc, ph, l, w1.shrink hs fun b hb => hm b (r1 b hb), w2.shrink hs fun b hb => hm b (r2 b hb), w3.shrink hs fun b hb => hm b (r3 b hb), d.mono hs, ⟨r0, r1, r2, r3⟩, n,
      fun b hb => ⟨hm b hb, (m b hb).2⟩⟩
theorem rdr_mk {p : Nat} {M : Nat → Prop} {h : Hp} {ra oa ca : Option Addr} {rc oc cc : Nat} {raw : List Int} {came : Nat} {done : List (List Int)} {cur : List Int} {ph : List Ph} {B1 B2 B3 : Nat}
    (l : Bl h p [.slice ra raw.length rc, .int .i64 came, .slice oa (done.length + 1) oc] 49) (mp : M p) (w1 : Ow B1 5 r8 M h ra rc raw) (w2 : Ow B2 32 rPh M h oa oc (ph ++ [(⟨ca, cur.length, cc⟩ : Ph)])) (w3 : Ow B3 21 r32 M h ca cc cur) (d : Dn M h ph done)
    (n1 : ¬ Ob ra rc p) (n2 : ¬ Ob oa oc p) (n3 : ¬ Ob ca cc p) (n4 : ∀ b, Ob ra rc b → ¬ Ob oa oc b) (n5 : ∀ b, Ob ra rc b → ¬ Ob ca cc b) (n6 : ∀ b, Ob oa oc b → ¬ Ob ca cc b) : (oRdr p).At (RdrR p ra rc oa oc ca cc) ⟨raw, came, done, cur⟩ M h :=
  ⟨ra, rc, oa, oc, ca, cc, ph, l, w1.mono (Nat.zero_le _), w2.mono (Nat.zero_le _), w3.mono (Nat.zero_le _), d, ⟨.inl rfl, fun _ h => .inr (.inl h), fun _ h => .inr (.inr (.inl h)), fun _ h => .inr (.inr (.inr h))⟩, ⟨n1, n2, n3, n4, n5, n6⟩, fun b hb => by
    rcases hb with rfl | hb | hb | hb
    · exact ⟨mp, l.lt⟩
    · exact ⟨w1.mem b hb, w1.lt b hb⟩
    · exact ⟨w2.mem b hb, w2.lt b hb⟩
    · exact ⟨w3.mem b hb, w3.lt b hb⟩⟩
theorem rdr_od {p n : Nat} {R : Nat → Prop} {ra oa ca : Option Addr} {rc oc cc : Nat} (p0 : R p) (p1 : ∀ b, Ob ra rc b → n ≤ b ∨ R b) (p2 : ∀ b, Ob oa oc b → n ≤ b ∨ R b) (p3 : ∀ b, Ob ca cc b → n ≤ b ∨ R b) : ∀ b, b < n → RdrR p ra rc oa oc ca cc b → R b := by
  rintro b hb (rfl | h | h | h)
  · exact p0
  · exact (p1 b h).elim (fun h => absurd hb (by omega)) id
  · exact (p2 b h).elim (fun h => absurd hb (by omega)) id
  · exact (p3 b h).elim (fun h => absurd hb (by omega)) id
theorem gt_end {α : Type} [Inhabited α] {l : List α} {x : α} {n : Nat} (h : l.length = n) : gt (l ++ [x]) (n : Int) = x := by subst h; simp [gt]
theorem set_end {α : Type} {l : List α} {x y : α} {n : Nat} (h : l.length = n) : (l ++ [x]).set ((n : Int)).toNat y = l ++ [y] := by subst h; simp

theorem c_tell (N : Nat → Prop) (h : Hp) (hN : ∀ b, N b → b < h.size) (r : Rdr) (l : List GotT) {p_r : Nat} {R_r : Nat → Prop} {a_l : Option Addr} {c_l : Nat} (o_r : (oRdr p_r).At R_r r N h) (s_l : Sl rGotT N h a_l c_l l) (hl : r.cur.length + l.length ≤ 1000000) : C prog 30 [.pointer (some ⟨p_r, 0, none⟩), .slice a_l l.length c_l] h (fun v h' => ∃ (N' : Nat → Prop) (R'_r : Nat → Prop), v = .tuple #[] ∧ Gm R_r N h N' h' ∧ (∀ b, b < h.size → R'_r b → R_r b) ∧ (oRdr p_r).At R'_r ({ r with cur := r.cur ++ l.map (·.r) }) N' h') := by
  have st := St.initS (S := R_r) hN fun b hb => Oj.mem _ o_r b hb
  have ns_l := s_l.ll
  refine enter func30 rfl ntmps30 results30 rfl rfl ?_
  obtain ⟨ra, rc, oa, oc, ca, cc, ph, lp_r, wr, wo, wc, dn, ⟨qr0, qr1, qr2, qr3⟩, ⟨dz1, dz2, dz3, dz4, dz5, dz6⟩, rm⟩ := o_r
  have mp_r := (rm _ qr0).1
  have pwr : ∀ b, Ob ra rc b → h.size ≤ b ∨ R_r b := fun b hb => .inr (qr1 b hb)
  have pwo : ∀ b, Ob oa oc b → h.size ≤ b ∨ R_r b := fun b hb => .inr (qr2 b hb)
  have pwc : ∀ b, Ob ca cc b → h.size ≤ b ∨ R_r b := fun b hb => .inr (qr3 b hb)
  have hph := dn.ln
  refine x_seq ?_
  refine x_region ?_
  refine r1 rfl (p_mv rfl) ?_
  refine r1 rfl (p_nc rfl) ?_
  refine r1 rfl (p_fld runUnderlying49 rfl sizeOf25 (by decide) rfl rfl) ?_
  refine r1 rfl (p_ld isAgg25 rfl (lp_r.get rfl)) ?_
  refine r1 rfl (p_len runUnderlying25 rfl) ?_
  refine r1 rfl (p_sub64 rfl rfl (by have := wo.len'; rw [List.length_append, hph] at this; omega)) ?_
  refine r1 rfl (p_as rfl) ?_
  refine o_nil ?_
  refine x_seq ?_
  refine x_region ?_
  refine r1 rfl (p_mv rfl) ?_
  refine r1 rfl (p_len runUnderlying72 rfl) ?_
  refine r1 rfl (p_mv rfl) ?_
  refine o_nil ?_
  refine x_block ?_
  have te1 : (((r.done.length + 1) : Nat) : Int) - 1 = (r.done.length : Int) := (by omega)
  try rw [te1]
  have te2 : r.cur = r.cur ++ (l.take (0 : Int).toNat).map (·.r) := (by simp)
  rw [te2] at wc
  have te3 : ph ++ [(⟨ca, r.cur.length, cc⟩ : Ph)] = ph ++ [(⟨ca, (r.cur ++ (l.take (0 : Int).toNat).map (·.r)).length, cc⟩ : Ph)] := (by simp)
  rw [te3] at wo
  try rw [te3]
  try rw [te3] at lp_r
  refine x_loope (σ := Int × (Option Addr) × Nat × (Option Addr) × Nat × (Nat → Prop)) (fun st_ E0 => match st_ with | (i, aLvc, cLvc, aLp_r_2, cLp_r_2, M_) => (15, .int .i64 i) :: E0) [(0, _), (4, _), (13, _), (14, _)] (fun st_ h' => match st_ with | (i, aLvc, cLvc, aLp_r_2, cLp_r_2, M_) => St N h R_r M_ h' ∧ Ow 0 21 r32 M_ h' aLvc cLvc (r.cur ++ (l.take i.toNat).map (·.r)) ∧ Ow 0 32 rPh M_ h' aLp_r_2 cLp_r_2 (ph ++ [(⟨aLvc, (r.cur ++ (l.take i.toNat).map (·.r)).length, cLvc⟩ : Ph)]) ∧ Ow 0 5 r8 M_ h' ra rc r.raw ∧ Dn M_ h' ph r.done ∧ Bl h' p_r [.slice ra r.raw.length rc, .int .i64 r.came, .slice aLp_r_2 (r.done.length + 1) cLp_r_2] 49 ∧ M_ p_r ∧ (¬ Ob aLvc cLvc p_r) ∧ (¬ Ob aLp_r_2 cLp_r_2 p_r) ∧ (¬ Ob ra rc p_r) ∧ (∀ b, Ob aLvc cLvc b → ¬ Ob aLp_r_2 cLp_r_2 b) ∧ (∀ b, Ob aLvc cLvc b → ¬ Ob ra rc b) ∧ (∀ b, Ob aLp_r_2 cLp_r_2 b → ¬ Ob ra rc b) ∧ (∀ b, Ob aLvc cLvc b → h.size ≤ b ∨ R_r b) ∧ (∀ b, Ob aLp_r_2 cLp_r_2 b → h.size ≤ b ∨ R_r b) ∧ (0 ≤ i ∧ i ≤ l.length)) (fun st_ => match st_ with | (i, aLvc, cLvc, aLp_r_2, cLp_r_2, M_) => (l.length - i).toNat) (0, ca, cc, oa, oc, N) ⟨⟨rfl, rfl, rfl, rfl, rfl, trivial⟩, rfl⟩ ?_ ?_
  · skip
    refine ⟨st, wc, wo, wr, dn, lp_r, mp_r, dz3, dz2, dz1, (fun b hb hh => dz6 b hh hb), (fun b hb hh => dz5 b hh hb), (fun b hb hh => dz4 b hh hb), pwc, pwo, ?_⟩
    · omega
  rintro ⟨i, aLvc, cLvc, aLp_r_2, cLp_r_2, M_⟩ h' ⟨st, wLvc, wLp_r_2, wr, dn, lp_r, mp_r, nowLvc_p_r, nowLp_r_2_p_r, nowr_p_r, nopwLvc_wLp_r_2, nopwLvc_wr, nopwLp_r_2_wr, pwLwLvc, pwLwLp_r_2, hi0⟩
  show X _ _ _ _ (_ :: _) _ _
  have nwLvc := wLvc.len'
  have nwLp_r_2 := wLp_r_2.len'
  refine x_seq ?_
  refine x_region ?_
  refine r1 rfl (p_lss rfl rfl) ?_
  refine o_nil ?_
  refine x_seq ?_
  refine x_cond rfl (fun hc => ?_) (fun hc => ?_)
  · skip
    try simp only [Bool.and_eq_true, Bool.or_eq_true, Bool.not_eq_true', decide_eq_true_eq, decide_eq_false_iff_not, Bool.or_eq_false_iff, Bool.and_eq_false_iff, Bool.not_eq_false'] at hc
    refine x_skip ?_
    refine x_seq ?_
    refine x_block ?_
    refine x_seq ?_
    refine x_region ?_
    refine r1 rfl (p_idx runUnderlying72 sizeOf103 rfl rfl (by omega) ((s_l.gr st.gr).isi (i := i) (by omega))) ?_
    obtain ⟨cs4, R4, C4⟩ := (s_l.gr st.gr).at_ (i) (by omega)
    obtain ⟨rfl, p4_0, p4_1, p4_2, p4_3⟩ := R4
    refine r1 rfl (p_lda isAgg103 rfl C4 sizeOf103) ?_
    refine o1 rfl (s_al zeroValue103 rfl ?_)
    intro b6 hb5 n5
    obtain ⟨M5, nm5⟩ := nm (M := M_) n5
    have gb6 : h.size ≤ b6 := n5.ge st.kp
    have neb6_p_r : b6 ≠ p_r := n5.ne lp_r
    have nob6_wLvc : ¬ Ob aLvc cLvc b6 := fun hh => by have := wLvc.lt _ hh; have := n5.at_; omega
    have nob6_wr : ¬ Ob ra rc b6 := fun hh => by have := wr.lt _ hh; have := n5.at_; omega
    have nob6_wLp_r_2 : ¬ Ob aLp_r_2 cLp_r_2 b6 := fun hh => by have := wLp_r_2.lt _ hh; have := n5.at_; omega
    have wLvc := wLvc.kp (nm5.gr n5) nm5.sub (n5.ext) fun _ _ hh => hh
    have wr := wr.kp (nm5.gr n5) nm5.sub (n5.ext) fun _ _ hh => hh
    have wLp_r_2 := wLp_r_2.kp (nm5.gr n5) nm5.sub (n5.ext) fun _ _ hh => hh
    have dn := dn.gr (nm5.gr n5)
    have lp_r := lp_r.lift (n5.ext)
    have mp_r := nm5.sub _ mp_r
    have st := st.new n5 nm5
    have lb6 := n5.bl
    have mb6 := nm5.mem
    refine o0 (s_sta rfl rfl sizeOf103 rfl lb6 rfl ?_)
    intro hu6 u6
    have wLvc := wLvc.upd u6 mb6 nob6_wLvc
    have wr := wr.upd u6 mb6 nob6_wr
    have wLp_r_2 := wLp_r_2.upd u6 mb6 nob6_wLp_r_2
    have dn := dn.gr (.upd u6 mb6)
    have lp_r := u6.kp.bl (Ne.symm neb6_p_r) lp_r
    have lb6 := u6.bl
    have st := st.upd u6 (.inl gb6)
    replace lb6 : Bl hu6 b6 [_, _, _, _, _] _ := lb6
    refine o_nil ?_
    refine x_regdt 16 (fun hq => Kp (Ob aLvc cLvc) hu6 hq) (by kernel_rfl) ⟨by kernel_rfl, by kernel_rfl, by kernel_rfl, by kernel_rfl⟩ ?_
    intro tl
    have xd := Kp.refl (Ob aLvc cLvc) hu6
    refine e_take 0 tl rfl rfl (by kernel_rfl) (by kernel_rfl) rfl xd (fun hq xq => p_mv rfl) ?_
    refine e_take 1 tl rfl rfl (by kernel_rfl) (by kernel_rfl) rfl xd (fun hq xq => p_nc rfl) ?_
    refine e_take 2 tl rfl rfl (by kernel_rfl) (by kernel_rfl) rfl xd (fun hq xq => p_fld runUnderlying49 rfl sizeOf25 (by decide) rfl rfl) ?_
    refine e_take 3 tl rfl rfl (by kernel_rfl) (by kernel_rfl) rfl xd (fun hq xq => p_ld isAgg25 rfl ((xq.bl nowLvc_p_r lp_r).get rfl)) ?_
    refine e_take 4 tl rfl rfl (by kernel_rfl) (by kernel_rfl) rfl xd (fun hq xq => p_mv rfl) ?_
    refine e_take 5 tl rfl rfl (by kernel_rfl) (by kernel_rfl) rfl xd (fun hq xq => p_mv rfl) ?_
    refine e_take 6 tl rfl rfl (by kernel_rfl) (by kernel_rfl) rfl xd (fun hq xq => p_nc rfl) ?_
    refine e_take 7 tl rfl rfl (by kernel_rfl) (by kernel_rfl) rfl xd (fun hq xq => p_fld runUnderlying49 rfl sizeOf25 (by decide) rfl rfl) ?_
    refine e_take 8 tl rfl rfl (by kernel_rfl) (by kernel_rfl) rfl xd (fun hq xq => p_ld isAgg25 rfl ((xq.bl nowLvc_p_r lp_r).get rfl)) ?_
    refine e_take 9 tl rfl rfl (by kernel_rfl) (by kernel_rfl) rfl xd (fun hq xq => p_mv rfl) ?_
    refine e_take 10 tl rfl rfl (by kernel_rfl) (by kernel_rfl) rfl xd (fun hq xq => p_idx runUnderlying25 sizeOf32 rfl rfl (by first | omega | (rw [List.length_append, hph]; simp; omega)) (wLp_r_2.isi (i := (r.done.length : Int)) (by first | omega | (rw [List.length_append, hph]; simp; omega)))) ?_
    obtain ⟨cs8, R8, C8⟩ := wLp_r_2.at_ ((r.done.length : Int)) (by first | omega | (rw [List.length_append, hph]; simp; omega))
    rw [gt_end hph] at R8
    replace R8 : cs8 = [.slice aLvc (r.cur ++ (l.take i.toNat).map (·.r)).length cLvc] := R8
    obtain rfl := R8
    refine e_take 11 tl rfl rfl (by kernel_rfl) (by kernel_rfl) rfl xd (fun hq xq => p_ld isAgg32 rfl ((C8.kp xq ((fun b hb hh => nopwLvc_wLp_r_2 b hh hb) _ (wLp_r_2.obi (i := (r.done.length : Int)) (by first | omega | (rw [List.length_append, hph]; simp; omega))))) 0 _ rfl)) ?_
    refine e_take 12 tl rfl rfl (by kernel_rfl) (by kernel_rfl) rfl xd (fun hq xq => p_fld runUnderlying103 rfl sizeOf21 (by decide) rfl rfl) ?_
    refine e_take 13 tl rfl rfl (by kernel_rfl) (by kernel_rfl) rfl xd (fun hq xq => p_ld isAgg21 rfl ((xq.bl nob6_wLvc lb6).get rfl)) ?_
    refine e_one 14 (by kernel_rfl) rfl rfl rfl (s_bs runUnderlying32 sizeOf21 zeroValue21 rfl rfl rfl rfl rfl ?_)
    intro bb9 hb9 n9
    have nmb9 : ¬ M5 bb9 := fun hh => by have := st.lt _ hh; have := n9.at_; omega
    have wLvc := wLvc.ext n9.ext
    have wLp_r_2 := wLp_r_2.ext n9.ext
    have wr := wr.ext n9.ext
    have dn := dn.gr (.ext n9.ext)
    have lp_r := lp_r.lift (n9.ext)
    have lb6 := lb6.lift (n9.ext)
    have st := st.ext n9.ext
    have xd := Kp.tr xd (n9.ext)
    have s9 : Sl r32 M5 hb9 (some ⟨bb9, 0, none⟩) 1 ([(gt l i).r] : List Int) := n9.sl nmb9 rfl (els_cons (by exact ⟨rfl, p4_0⟩) els_nil)
    refine ⟨xd, ?_⟩
    refine e_one 15 (by kernel_rfl) rfl rfl rfl (s_app runUnderlying32 runUnderlying32 sizeOf21 typeInfo21 zeroValue21 rfl rfl rfl rfl rfl rfl wLvc s9 (Nat.zero_le _) (by simp only [List.length_append, List.length_map, List.length_take, List.length_cons, List.length_nil]; omega) ?_)
    intro a11 c11 hp11 ap11 wf11
    obtain ⟨M11, am11⟩ := am ap11 wLvc.mem
    have now11_p_r : ¬ Ob a11 c11 p_r := fun hh => nowLvc_p_r (ap11.old _ lp_r.lt hh)
    have now11_b6 : ¬ Ob a11 c11 b6 := fun hh => nob6_wLvc (ap11.old _ lb6.lt hh)
    have nop11_wLp_r_2 : ∀ b, Ob aLp_r_2 cLp_r_2 b → ¬ Ob a11 c11 b := fun b hb hh => (fun b hb hh => nopwLvc_wLp_r_2 b hh hb) b hb (ap11.old _ (wLp_r_2.lt b hb) hh)
    have nop11_wr : ∀ b, Ob ra rc b → ¬ Ob a11 c11 b := fun b hb hh => (fun b hb hh => nopwLvc_wr b hh hb) b hb (ap11.old _ (wr.lt b hb) hh)
    have pw11 : ∀ b, Ob a11 c11 b → h.size ≤ b ∨ R_r b := fun b hb => if hlt : b < hb9.size then pwLwLvc b (ap11.old b hlt hb) else .inl (by have := st.kp.size; omega)
    have w11_ := wf11 M11 am11
    have wLp_r_2 := wLp_r_2.kp (am11.gr ap11 wLvc.mem) am11.sub ap11.kp (fun b hb hh => nopwLvc_wLp_r_2 b hh hb)
    have wr := wr.kp (am11.gr ap11 wLvc.mem) am11.sub ap11.kp (fun b hb hh => nopwLvc_wr b hh hb)
    have dn := dn.gr (am11.gr ap11 wLvc.mem)
    have lp_r := ap11.kp.bl nowLvc_p_r lp_r
    have mp_r := am11.sub _ mp_r
    have lb6 := ap11.kp.bl nob6_wLvc lb6
    have mb6 := am11.sub _ mb6
    have st := st.app ap11 am11 pwLwLvc
    have xd := Kp.own xd ap11.kp (fun k hk hh => hh)
    have w11 := w11_
    refine ⟨xd, ?_⟩
    refine e_end (by kernel_rfl) ?_
    refine r1 rfl (p_idx runUnderlying25 sizeOf32 rfl rfl (by first | omega | (rw [List.length_append, hph]; simp; omega)) (wLp_r_2.isi (i := (r.done.length : Int)) (by first | omega | (rw [List.length_append, hph]; simp; omega)))) ?_
    obtain ⟨ecs12, eo12, el12, ei12, ew12⟩ := wLp_r_2.put ((r.done.length : Int)) (by first | omega | (rw [List.length_append, hph]; simp; omega)) rfl
    refine o0 (s_st sizeOf32 rfl rfl rfl el12 ei12 ?_)
    intro hu12 u12
    have ew12_ := ew12 _ (⟨a11, ((r.cur ++ (l.take i.toNat).map (·.r)) ++ [(gt l i).r]).length, c11⟩) _ u12 (by exact rfl)
    have gm12 := u12.gm eo12 wLp_r_2.mem st
    have w11 := w11.gm gm12 (fun b hb hh => nop11_wLp_r_2 b hh hb)
    have wr := wr.gm gm12 (fun b hb hh => nopwLp_r_2_wr b hh hb)
    have dn := dn.gr gm12.gr
    have lp_r := gm12.kp.bl nowLp_r_2_p_r lp_r
    have lb6 := gm12.kp.bl nob6_wLp_r_2 lb6
    have st := st.gm gm12 pwLwLp_r_2
    have wLp_r_2 := ew12_
    refine o_nil ?_
    refine x_region ?_
    refine r1 rfl (p_add64 rfl rfl (by omega)) ?_
    refine r1 rfl (p_mv rfl) ?_
    refine o_nil ?_
    have e1 : (l.take i.toNat).map (·.r) ++ [(gt l i).r] = (l.take (i + 1).toNat).map (·.r) := by
      rw [show (i + 1).toNat = i.toNat + 1 by omega, List.take_add_one, gt_get hi0.1 hc]; simp
    have te13 : (r.cur ++ (l.take i.toNat).map (·.r)) ++ [(gt l i).r] = r.cur ++ (l.take (i + 1).toNat).map (·.r) := (by rw [← e1, List.append_assoc])
    rw [te13] at w11
    have te14 : (ph ++ [(⟨aLvc, (r.cur ++ (l.take i.toNat).map (·.r)).length, cLvc⟩ : Ph)]).set ((r.done.length : Int)).toNat (⟨a11, ((r.cur ++ (l.take i.toNat).map (·.r)) ++ [(gt l i).r]).length, c11⟩) = ph ++ [(⟨a11, (r.cur ++ (l.take (i + 1).toNat).map (·.r)).length, c11⟩ : Ph)] := (by rw [set_end hph, ← e1, List.append_assoc])
    rw [te14] at wLp_r_2
    try rw [te14]
    try rw [te14] at lp_r
    refine ⟨(i + 1, a11, c11, aLp_r_2, cLp_r_2, M11), ⟨⟨rfl, rfl, rfl, rfl, rfl, trivial⟩, rfl⟩, ?_, ?_⟩
    · skip
      refine ⟨st, w11, wLp_r_2, wr, dn, lp_r, mp_r, now11_p_r, nowLp_r_2_p_r, nowr_p_r, (fun b hb hh => nop11_wLp_r_2 b hh hb), (fun b hb hh => nop11_wr b hh hb), nopwLp_r_2_wr, pw11, pwLwLp_r_2, ?_⟩
      · omega
    · (try dsimp only); omega
  · skip
    try simp only [Bool.and_eq_true, Bool.or_eq_true, Bool.not_eq_true', decide_eq_true_eq, decide_eq_false_iff_not, Bool.or_eq_false_iff, Bool.and_eq_false_iff, Bool.not_eq_false'] at hc
    refine x_exit ?_
    refine fin0 ?_
    have e0 : (l.take i.toNat).map (·.r) = l.map (·.r) := by rw [List.take_of_length_le (by omega)]
    have te15 : r.cur ++ (l.take i.toNat).map (·.r) = r.cur ++ l.map (·.r) := (by rw [e0])
    rw [te15] at wLvc
    have te16 : ph ++ [(⟨aLvc, (r.cur ++ (l.take i.toNat).map (·.r)).length, cLvc⟩ : Ph)] = ph ++ [(⟨aLvc, (r.cur ++ l.map (·.r)).length, cLvc⟩ : Ph)] := (by rw [e0])
    rw [te16] at wLp_r_2
    try rw [te16]
    try rw [te16] at lp_r
    have o_r := rdr_mk lp_r mp_r wr wLp_r_2 wLvc dn nowr_p_r nowLp_r_2_p_r nowLvc_p_r (fun b h1 h2 => nopwLp_r_2_wr b h2 h1) (fun b h1 h2 => nopwLvc_wr b h2 h1) (fun b h1 h2 => nopwLvc_wLp_r_2 b h2 h1)
    exact ⟨M_, (RdrR p_r ra rc aLp_r_2 cLp_r_2 aLvc cLvc), rfl, st.out, (rdr_od qr0 pwr pwLwLp_r_2 pwLwLvc), o_r⟩
end Go.Proofs
