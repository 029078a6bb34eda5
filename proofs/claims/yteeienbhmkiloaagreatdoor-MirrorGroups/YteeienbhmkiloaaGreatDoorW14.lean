import Derived.Test.YteeienbhmkiloaaGreatDoorW13
set_option linter.unusedSimpArgs false
set_option linter.unusedVariables false
namespace Go.Proofs
open Go.Lx Tryz

abbrev PRows := List (Nat × Line)
abbrev LinesT := List Line
def _root_.Go.Lx.Oj.map {α β : Type} (o : Oj α) (f : α → β) : Oj β where
  At R y M h := ∃ x, f x = y ∧ o.At R x M h
  stab := by rintro R M M' W y h h' ⟨x, e, q⟩ g s k hW; exact ⟨x, e, o.stab q g s k hW⟩
  lt := by rintro R M y h ⟨x, e, q⟩; exact o.lt q
  mem := by rintro R M y h ⟨x, e, q⟩; exact o.mem q
  sh := by rintro R M M' y h ⟨x, e, q⟩ hs hm; exact ⟨x, e, o.sh q hs hm⟩
/-- Rows, each by itself. -/
def oRows : Oj PRows where
  At R G M h := ∃ own : Nat → Option Nat, (∀ x ∈ G, (oRow x.1).At (fun b => R b ∧ own b = some x.1) x.2 M h) ∧ (G.map (·.1)).Nodup ∧ ∀ b, R b → M b ∧ b < h.size
  stab := by
    rintro R M M' W x h h' ⟨own, a, n, m⟩ g s k hW
    exact ⟨own, fun x hx => (oRow x.1).stab (a x hx) g s k fun b hb => hW b hb.1, n, fun b hb => ⟨s b (m b hb).1, Nat.lt_of_lt_of_le (m b hb).2 k.size⟩⟩
  lt := by rintro R M x h ⟨own, a, n, m⟩ b hb; exact (m b hb).2
  mem := by rintro R M x h ⟨own, a, n, m⟩ b hb; exact (m b hb).1
  sh := by
    rintro R M M' x h ⟨own, a, n, m⟩ hs hm
    exact ⟨own, fun x hx => (oRow x.1).sh (a x hx) hs fun b hb => hm b hb.1, n, fun b hb => ⟨hm b hb, (m b hb).2⟩⟩
theorem row_in {p : Nat} {R : Nat → Prop} {l : Line} {M : Nat → Prop} {h : Hp} (o : (oRow p).At R l M h) : R p := by
  obtain ⟨a, c, l, w, ⟨r0, _⟩, _⟩ := o; exact r0
theorem rows_nil {M : Nat → Prop} {h : Hp} : oRows.At (fun _ => False) [] M h := ⟨fun _ => none, fun x hx => by simp at hx, List.nodup_nil, fun b hb => hb.elim⟩
theorem rows_at {R : Nat → Prop} {G : PRows} {M : Nat → Prop} {h : Hp} (o : oRows.At R G M h) {x : Nat × Line} (hx : x ∈ G) : ∃ Rx, (oRow x.1).At Rx x.2 M h ∧ ∀ b, Rx b → R b := by
  obtain ⟨own, a, n, m⟩ := o
  exact ⟨_, a x hx, fun b hb => hb.1⟩
theorem rows_push {R Rp : Nat → Prop} {G : PRows} {p : Nat} {l : Line} {M : Nat → Prop} {h : Hp} (o : oRows.At R G M h) (q : (oRow p).At Rp l M h) (dj : ∀ b, R b → ¬ Rp b) : oRows.At (fun b => R b ∨ Rp b) (G ++ [(p, l)]) M h := by
  classical
  obtain ⟨own, a, n, m⟩ := o
  have hp := row_in q
  have hne : ∀ x ∈ G, x.1 ≠ p := fun x hx e => dj p (by have := (row_in (a x hx)).1; rwa [e] at this) hp
  refine ⟨fun b => if Rp b then some p else if own b = some p then none else own b, fun x hx => ?_, ?_, fun b hb => hb.elim (m b) fun h => ⟨(oRow p).mem q b h, (oRow p).lt q b h⟩⟩
  · rcases List.mem_append.1 hx with hx | hx
    · have e : (fun b => (R b ∨ Rp b) ∧ (if Rp b then some p else if own b = some p then none else own b) = some x.1) = fun b => R b ∧ own b = some x.1 := by
        funext b; apply propext; constructor
        · rintro ⟨h1, h2⟩
          by_cases hb : Rp b
          · rw [if_pos hb] at h2; exact absurd (Option.some.inj h2).symm (hne x hx)
          · rw [if_neg hb] at h2
            by_cases hq : own b = some p
            · rw [if_pos hq] at h2; cases h2
            · rw [if_neg hq] at h2; exact ⟨h1.elim id fun h => absurd h hb, h2⟩
        · rintro ⟨h1, h2⟩
          rw [if_neg (dj b h1), if_neg (by rw [h2]; intro e; exact hne x hx (Option.some.inj e))]; exact ⟨.inl h1, h2⟩
      rw [e]; exact a x hx
    · simp only [List.mem_cons, List.not_mem_nil, or_false] at hx
      subst hx
      have e : (fun b => (R b ∨ Rp b) ∧ (if Rp b then some p else if own b = some p then none else own b) = some p) = Rp := by
        funext b; apply propext; constructor
        · rintro ⟨h1, h2⟩
          by_cases hb : Rp b
          · exact hb
          · rw [if_neg hb] at h2
            by_cases hq : own b = some p
            · rw [if_pos hq] at h2; cases h2
            · rw [if_neg hq] at h2; exact absurd h2 hq
        · intro hb
          rw [if_pos hb]; exact ⟨.inr hb, rfl⟩
      rw [e]; exact q
  · rw [List.map_append, List.nodup_append]
    refine ⟨n, by simp, fun y hy z hz => ?_⟩
    simp at hz
    subst hz
    obtain ⟨x, hx, rfl⟩ := List.mem_map.1 hy
    exact hne x hx
def GridAt (g : Nat) (R : Nat → Prop) (G : PRows) (M : Nat → Prop) (h : Hp) : Prop :=
  ∃ a c Rs, Bl h g [.slice a (G.map (·.1)).length c] 98 ∧ Ow 0 90 rPt M h a c (G.map (·.1)) ∧ oRows.At Rs G M h ∧ (R g ∧ (∀ b, Ob a c b → R b) ∧ ∀ b, Rs b → R b) ∧ (¬ Ob a c g ∧ ¬ Rs g ∧ ∀ b, Ob a c b → ¬ Rs b) ∧ ∀ b, R b → M b ∧ b < h.size
def oGrid (g : Nat) : Oj PRows where
  At := GridAt g
  stab := by
    rintro R M M' W x h h' ⟨a, c, Rs, l, w1, q, ⟨r0, r1, r2⟩, n, m⟩ g s k hW
    exact ⟨a, c, Rs, k.bl (hW _ r0) l, w1.kp g s k fun b hb => hW b (r1 b hb), oRows.stab q g s k fun b hb => hW b (r2 b hb), ⟨r0, r1, r2⟩, n, fun b hb => ⟨s b (m b hb).1, Nat.lt_of_lt_of_le (m b hb).2 k.size⟩⟩
  lt := by rintro R M x h ⟨a, c, Rs, l, w1, q, r, n, m⟩ b hb; exact (m b hb).2
  mem := by rintro R M x h ⟨a, c, Rs, l, w1, q, r, n, m⟩ b hb; exact (m b hb).1
  sh := by
    rintro R M M' x h ⟨a, c, Rs, l, w1, q, ⟨r0, r1, r2⟩, n, m⟩ hs hm
    exact ⟨a, c, Rs, l, w1.shrink hs fun b hb => hm b (r1 b hb), oRows.sh q hs fun b hb => hm b (r2 b hb), ⟨r0, r1, r2⟩, n, fun b hb => ⟨hm b hb, (m b hb).2⟩⟩
def GridR (g : Nat) (a : Option Addr) (c : Nat) (Rs : Nat → Prop) (b : Nat) : Prop := b = g ∨ Ob a c b ∨ Rs b
theorem grid_mk {g : Nat} {M Rs : Nat → Prop} {h : Hp} {a : Option Addr} {c B : Nat} {G : PRows} (l : Bl h g [.slice a (G.map (·.1)).length c] 98) (mp : M g) (w : Ow B 90 rPt M h a c (G.map (·.1))) (q : oRows.At Rs G M h)
    (n1 : ¬ Ob a c g) (n2 : ¬ Rs g) (n3 : ∀ b, Ob a c b → ¬ Rs b) : (oGrid g).At (GridR g a c Rs) G M h :=
  ⟨a, c, Rs, l, w.mono (Nat.zero_le _), q, ⟨.inl rfl, fun _ h => .inr (.inl h), fun _ h => .inr (.inr h)⟩, ⟨n1, n2, n3⟩, fun b hb => by
    rcases hb with rfl | hb | hb
    · exact ⟨mp, l.lt⟩
    · exact ⟨w.mem b hb, w.lt b hb⟩
    · exact ⟨oRows.mem q b hb, oRows.lt q b hb⟩⟩
theorem grid_ge {g n : Nat} {a : Option Addr} {c : Nat} {Rs : Nat → Prop} (p0 : n ≤ g) (p1 : ∀ b, Ob a c b → n ≤ b) (p2 : ∀ b, Rs b → n ≤ b) : ∀ b, GridR g a c Rs b → n ≤ b := by
  rintro b (rfl | h | h)
  · exact p0
  · exact p1 b h
  · exact p2 b h
abbrev oGridL (g : Nat) : Oj LinesT := (oGrid g).map (·.map (·.2))
def gridN (h : Int) : Nat := (max 1 (min h 1024)).toNat
theorem pl98 : ∀ w, ((#[{ name := "rows", type := 96, offset := 0, embedded := false, tag := "", pkgPath := "linotype/grid", byteOffset := 0 }] : Array Field).mapM (fun f => do return (f.offset, ← sizeOf f.type)) : Sem (Array (Nat × Nat))).run prog w = .ok (([(0, 1)] : List (Nat × Nat))).toArray w := fun _ => by kernel_rfl
theorem c_gridNew (N : Nat → Prop) (h : Hp) (hN : ∀ b, N b → b < h.size) (w : Int) (hh : Int)   : C prog 35 [.int .i64 w, .int .i64 hh] h (fun v h' => ∃ (pr : Nat) (Rr : Nat → Prop), v = .pointer (some ⟨pr, 0, none⟩) ∧ (∀ b, Rr b → h.size ≤ b) ∧ (oGridL pr).At Rr (List.replicate (gridN hh) (newL w)) (fun b => N b ∨ Rr b) h' ∧ Ext h h') := by
  have st := St.init hN
  refine enter func35 rfl ntmps35 results35 rfl rfl ?_
  refine x_seq ?_
  refine x_region ?_
  refine r1 rfl (p_as rfl) ?_
  refine o_nil ?_
  refine x_seq ?_
  refine x_region ?_
  refine r1 rfl (p_bs runUnderlying98 zeroValue98 pl98 rfl) ?_
  show O _ _ _ _ _ ((_, .agg #[_]) :: _) _ _
  refine o1 rfl (s_box rfl rfl ?_)
  intro b7 hb1 n1
  obtain ⟨M1, nm1⟩ := nm (M := N) n1
  have gb7 : h.size ≤ b7 := n1.ge st.kp
  have st := st.new n1 nm1
  have lb7 := n1.bl
  have mb7 := nm1.mem
  refine r1 rfl (p_as rfl) ?_
  refine o_nil ?_
  refine x_seq ?_
  refine x_seq ?_
  refine x_region ?_
  refine r1 rfl (p_mv rfl) ?_
  refine r1 rfl (p_min2 rfl rfl) ?_
  refine r1 rfl (p_max2 rfl rfl) ?_
  refine r1 rfl (p_mv rfl) ?_
  refine o_nil ?_
  refine x_block ?_
  have qs := rows_nil (M := M1) (h := hb1)
  have gs0 : ∀ b, (fun _ => False) b → h.size ≤ b := fun _ hb => hb.elim
  refine x_loope (σ := PRows × (Option Addr) × Nat × (Nat → Prop) × (Nat → Prop)) (fun st_ E0 => match st_ with | (G, aLb7_0, cLb7_0, RL_rs, M_) => (11, .int .i64 (G.length : Int)) :: E0) [(0, _), (5, _), (10, _)] (fun st_ h' => match st_ with | (G, aLb7_0, cLb7_0, RL_rs, M_) => St N h (fun _ => False) M_ h' ∧ Ow h.size 90 rPt M_ h' aLb7_0 cLb7_0 (G.map (·.1)) ∧ oRows.At RL_rs G M_ h' ∧ Bl h' b7 [.slice aLb7_0 (G.map (·.1)).length cLb7_0] 98 ∧ M_ b7 ∧ (¬ Ob aLb7_0 cLb7_0 b7) ∧ (¬ RL_rs b7) ∧ (∀ b, Ob aLb7_0 cLb7_0 b → ¬ RL_rs b) ∧ (∀ b, RL_rs b → h.size ≤ b) ∧ (G.length ≤ gridN hh) ∧ (G.map (·.2) = List.replicate G.length (newL w))) (fun st_ => match st_ with | (G, aLb7_0, cLb7_0, RL_rs, M_) => gridN hh - G.length) ([], none, 0, (fun _ => False), M1) ⟨⟨rfl, rfl, rfl, rfl, trivial⟩, rfl⟩ ?_ ?_
  · skip
    refine ⟨st, (Ow.nil (B := h.size) (T := 90) (r := rPt) (M := M1) (h := hb1) (a := none)), qs, lb7, mb7, (fun hh => by have := hh.1; omega), (fun hh => hh), (fun _ hh => by have := hh.1; omega), gs0, ?_, ?_⟩
    · exact Nat.zero_le _
    · rfl
  rintro ⟨G, aLb7_0, cLb7_0, RL_rs, M_⟩ h' ⟨st, wLb7_0, qs, lb7, mb7, nowLb7_0_b7, noqs_b7, nopwLb7_0_qs, goL_qs, hi0, hi1⟩
  show X _ _ _ _ (_ :: _) _ _
  have nwLb7_0 := wLb7_0.len'
  refine x_seq ?_
  refine x_region ?_
  refine r1 rfl (p_lss rfl rfl) ?_
  refine o_nil ?_
  refine x_seq ?_
  refine x_cond rfl (fun hc => ?_) (fun hc => ?_)
  · skip
    try simp only [Bool.and_eq_true, Bool.or_eq_true, Bool.not_eq_true', decide_eq_true_eq, decide_eq_false_iff_not, Bool.or_eq_false_iff, Bool.and_eq_false_iff, Bool.not_eq_false'] at hc
    have hlt : G.length < gridN hh := by unfold gridN; omega
    have hg : gridN hh ≤ 1024 := by unfold gridN; omega
    refine x_skip ?_
    refine x_seq ?_
    refine x_block ?_
    refine x_regdt 9 (fun hq => Kp (Ob aLb7_0 cLb7_0) h' hq) (by kernel_rfl) ⟨by kernel_rfl, by kernel_rfl, by kernel_rfl, by kernel_rfl⟩ ?_
    intro tl
    have xd := Kp.refl (Ob aLb7_0 cLb7_0) h'
    refine e_take 0 tl rfl rfl (by kernel_rfl) (by kernel_rfl) rfl xd (fun hq xq => p_mv rfl) ?_
    refine e_take 1 tl rfl rfl (by kernel_rfl) (by kernel_rfl) rfl xd (fun hq xq => p_mv rfl) ?_
    refine e_take 2 tl rfl rfl (by kernel_rfl) (by kernel_rfl) rfl xd (fun hq xq => p_nc rfl) ?_
    refine e_take 3 tl rfl rfl (by kernel_rfl) (by kernel_rfl) rfl xd (fun hq xq => p_fld runUnderlying98 rfl sizeOf96 (by decide) rfl rfl) ?_
    refine e_take 4 tl rfl rfl (by kernel_rfl) (by kernel_rfl) rfl xd (fun hq xq => p_ld isAgg96 rfl ((xq.bl nowLb7_0_b7 lb7).get rfl)) ?_
    refine e_take 5 tl rfl rfl (by kernel_rfl) (by kernel_rfl) rfl xd (fun hq xq => p_mv rfl) ?_
    refine e_one 6 (by kernel_rfl) rfl rfl rfl (s_call call55 rfl (c_rowNew M_ h' st.lt w) ?_)
    rintro _ hp3 ⟨pbX, RbX, rfl, goX, obX, x3⟩
    obtain ⟨M3, ab3, obX, st3⟩ := St.ob st x3 obX goX
    have gnX : ∀ b, RbX b → h.size ≤ b := fun b hb => Nat.le_trans st.kp.size (goX b hb)
    have noqX_b7 : ¬ RbX b7 := fun hh => by have := goX _ hh; have := lb7.lt; omega
    have noqX_wLb7_0 : ∀ b, Ob aLb7_0 cLb7_0 b → ¬ RbX b := fun b hb hh => by have := goX _ hh; have := wLb7_0.lt b hb; omega
    have noqX_qs : ∀ b, RL_rs b → ¬ RbX b := fun b hb hh => by have := goX _ hh; have := Oj.lt _ qs b hb; omega
    have wLb7_0 := wLb7_0.kp (ab3.gx x3) ab3.sub (x3) fun _ _ hh => hh
    have qs := Oj.gx qs (ab3.gx x3) ab3.sub (x3)
    have lb7 := lb7.lift (x3)
    have mb7 := ab3.sub _ mb7
    have st := st3
    have xd := Kp.tr xd (x3)
    refine ⟨xd, ?_⟩
    refine e_one 7 (by kernel_rfl) rfl rfl rfl (s_bs runUnderlying96 sizeOf90 zeroValue90 rfl rfl rfl rfl rfl ?_)
    intro bb4 hb4 n4
    have nmb4 : ¬ M3 bb4 := fun hh => by have := st.lt _ hh; have := n4.at_; omega
    have wLb7_0 := wLb7_0.ext n4.ext
    have qs := Oj.ext qs n4.ext
    have obX := Oj.ext obX n4.ext
    have lb7 := lb7.lift (n4.ext)
    have st := st.ext n4.ext
    have xd := Kp.tr xd (n4.ext)
    have s4 : Sl rPt M3 hb4 (some ⟨bb4, 0, none⟩) 1 ([pbX] : List Nat) := n4.sl nmb4 rfl (els_cons (by exact rfl) els_nil)
    refine ⟨xd, ?_⟩
    refine e_one 8 (by kernel_rfl) rfl rfl rfl (s_app runUnderlying96 runUnderlying96 sizeOf90 typeInfo90 zeroValue90 rfl rfl rfl rfl rfl rfl wLb7_0 s4 (Nat.le_trans st.kp.size (Nat.le_refl _)) (by simp only [List.length_append, List.length_map, List.length_cons, List.length_nil]; omega) ?_)
    intro a6 c6 hp6 ap6 wf6
    obtain ⟨M6, am6⟩ := am ap6 wLb7_0.mem
    have now6_b7 : ¬ Ob a6 c6 b7 := fun hh => nowLb7_0_b7 (ap6.old _ lb7.lt hh)
    have nop6_qs : ∀ b, RL_rs b → ¬ Ob a6 c6 b := fun b hb hh => (fun b hb hh => nopwLb7_0_qs b hh hb) b hb (ap6.old _ (Oj.lt _ qs b hb) hh)
    have nop6_obX : ∀ b, RbX b → ¬ Ob a6 c6 b := fun b hb hh => (fun b hb hh => noqX_wLb7_0 b hh hb) b hb (ap6.old _ (Oj.lt _ obX b hb) hh)
    have w6_ := wf6 M6 am6
    have qs := Oj.stab _ qs (am6.gr ap6 wLb7_0.mem) am6.sub ap6.kp (fun b hb hh => nopwLb7_0_qs b hh hb)
    have obX := Oj.stab _ obX (am6.gr ap6 wLb7_0.mem) am6.sub ap6.kp (fun b hb hh => noqX_wLb7_0 b hh hb)
    have lb7 := ap6.kp.bl nowLb7_0_b7 lb7
    have mb7 := am6.sub _ mb7
    have st := st.app ap6 am6 (fun b hb => .inl (wLb7_0.ge b hb))
    have xd := Kp.own xd ap6.kp (fun k hk hh => hh)
    have w6 := w6_
    refine ⟨xd, ?_⟩
    refine e_end (by kernel_rfl) ?_
    refine r1 rfl (p_nc rfl) ?_
    refine r1 rfl (p_fld runUnderlying98 rfl sizeOf96 (by decide) rfl rfl) ?_
    refine o0 (s_sto sizeOf96 rfl rfl rfl lb7 rfl ?_)
    intro hu7 u7
    have w6 := w6.upd u7 mb7 now6_b7
    have qs := Oj.upd qs u7 mb7 noqs_b7
    have obX := Oj.upd obX u7 mb7 noqX_b7
    have lb7 := u7.bl
    have st := st.upd u7 (.inl gb7)
    replace lb7 : Bl hu7 b7 [_] _ := lb7
    refine o_nil ?_
    refine x_region ?_
    refine r1 rfl (p_add64 rfl rfl (by omega)) ?_
    refine r1 rfl (p_mv rfl) ?_
    refine o_nil ?_
    have te8 : (G.map (·.1)) ++ [pbX] = (G ++ [(pbX, newL w)]).map (·.1) := (by simp)
    rw [te8] at w6
    try rw [te8]
    try rw [te8] at lb7
    have neq1 : ¬ (RL_rs b7 ∨ RbX b7) := fun hh => hh.elim noqs_b7 noqX_b7
    have neq2 : ∀ b, Ob a6 c6 b → ¬ (RL_rs b ∨ RbX b) := fun b hb hh => hh.elim ((fun b hb hh => nop6_qs b hh hb) b hb) ((fun b hb hh => nop6_obX b hh hb) b hb)
    have qs2 := rows_push qs obX noqX_qs
    have gs2 : ∀ b, (RL_rs b ∨ RbX b) → h.size ≤ b := fun b hb => hb.elim (goL_qs b) (gnX b)
    refine ⟨(G ++ [(pbX, newL w)], a6, c6, (fun b => RL_rs b ∨ RbX b), M6), ⟨⟨(congrArg (fun z => some (Value.int .i64 z)) (by simp)), rfl, rfl, rfl, trivial⟩, rfl⟩, ?_, ?_⟩
    · skip
      refine ⟨st, w6, qs2, lb7, mb7, now6_b7, neq1, neq2, gs2, ?_, ?_⟩
      · simp; omega
      · rw [List.map_append, hi1, List.length_append]; exact List.replicate_succ'.symm
    · skip
      simp only [List.length_append, List.length_cons, List.length_nil]; omega
  · skip
    try simp only [Bool.and_eq_true, Bool.or_eq_true, Bool.not_eq_true', decide_eq_true_eq, decide_eq_false_iff_not, Bool.or_eq_false_iff, Bool.and_eq_false_iff, Bool.not_eq_false'] at hc
    have hG : G.length = gridN hh := by unfold gridN at *; omega
    refine x_exit ?_
    refine x_seq ?_
    refine x_region ?_
    refine r1 rfl (p_mv rfl) ?_
    refine r1 rfl (p_as rfl) ?_
    refine o_nil ?_
    refine x_ret (fin1 rfl ?_)
    have og : (oGrid b7).At (GridR b7 aLb7_0 cLb7_0 RL_rs) G M_ h' := grid_mk lb7 mb7 wLb7_0 qs nowLb7_0_b7 noqs_b7 nopwLb7_0_qs
    have gg := grid_ge gb7 wLb7_0.ge goL_qs
    have ol : (oGridL b7).At (GridR b7 aLb7_0 cLb7_0 RL_rs) (List.replicate (gridN hh) (newL w)) M_ h' := ⟨G, by show G.map (·.2) = _; rw [hi1, hG], og⟩
    exact ⟨b7, (GridR b7 aLb7_0 cLb7_0 RL_rs), rfl, gg, (Oj.ret ol st), st.x⟩
end Go.Proofs
