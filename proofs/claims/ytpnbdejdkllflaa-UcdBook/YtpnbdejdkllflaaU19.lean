import Derived.Test.YtpnbdejdkllflaaU18
set_option linter.unusedVariables false
namespace Go.Proofs
open Go.Lx Try

theorem pl69 : ∀ w, ((#[{ name := "first", type := 66, offset := 0, embedded := false, tag := "", pkgPath := "linotype/pack", byteOffset := 0 }, { name := "blocks", type := 67, offset := 4352, embedded := false, tag := "", pkgPath := "linotype/pack", byteOffset := 8704 }] : Array Field).mapM (fun f => do return (f.offset, ← sizeOf f.type)) : Sem (Array (Nat × Nat))).run prog w = .ok (([(0, 4352), (4352, 1)] : List (Nat × Nat))).toArray w := fun _ => by kernel_rfl
theorem pl71 : ∀ w, ((#[{ name := "rest", type := 33, offset := 0, embedded := false, tag := "", pkgPath := "linotype/pack", byteOffset := 0 }, { name := "known", type := 63, offset := 1, embedded := false, tag := "", pkgPath := "linotype/pack", byteOffset := 24 }, { name := "even", type := 64, offset := 2, embedded := false, tag := "", pkgPath := "linotype/pack", byteOffset := 32 }, { name := "t", type := 38, offset := 3, embedded := false, tag := "", pkgPath := "linotype/pack", byteOffset := 40 }] : Array Field).mapM (fun f => do return (f.offset, ← sizeOf f.type)) : Sem (Array (Nat × Nat))).run prog w = .ok (([(0, 1), (1, 1), (2, 1), (3, 1)] : List (Nat × Nat))).toArray w := fun _ => by kernel_rfl
theorem pl41 : ∀ w, ((#[{ name := "table", type := 38, offset := 0, embedded := false, tag := "", pkgPath := "linotype/ucd", byteOffset := 0 }] : Array Field).mapM (fun f => do return (f.offset, ← sizeOf f.type)) : Sem (Array (Nat × Nat))).run prog w = .ok (([(0, 1)] : List (Nat × Nat))).toArray w := fun _ => by kernel_rfl

def bldF (l : List Sp) : Nat → List Int × List Sp × List (List Int) × List (Int × Int)
  | 0 => (List.replicate 4352 0, l, [], [])
  | p + 1 => ((bldF l p).1.set p (pageF ((p : Int) * 256) (bldF l p).2.1 (bldF l p).2.2.1 (bldF l p).2.2.2).1, (pageF ((p : Int) * 256) (bldF l p).2.1 (bldF l p).2.2.1 (bldF l p).2.2.2).2.1,
      (pageF ((p : Int) * 256) (bldF l p).2.1 (bldF l p).2.2.1 (bldF l p).2.2.2).2.2.1, (pageF ((p : Int) * 256) (bldF l p).2.1 (bldF l p).2.2.1 (bldF l p).2.2.2).2.2.2)
theorem numF_len (x : List Int) (Bk : List (List Int)) : (numF x Bk).2.length ≤ Bk.length + 1 := by
  unfold numF; split <;> simp
theorem pageF_len (f : Int) (rest : List Sp) (Bk : List (List Int)) (Ev : List (Int × Int)) : (pageF f rest Bk Ev).2.2.1.length ≤ Bk.length + 1 := by
  unfold pageF; split
  · simp
  · exact numF_len _ _
theorem pageF_rest (f : Int) (rest : List Sp) (Bk : List (List Int)) (Ev : List (Int × Int)) : (pageF f rest Bk Ev).2.1 = rest.dropWhile (fun s => decide (s.hi < f)) := by
  unfold pageF; split <;> rfl
theorem bldF_len (l : List Sp) : ∀ p, (bldF l p).2.2.1.length ≤ p
  | 0 => Nat.le_refl 0
  | p + 1 => by
    have := bldF_len l p
    have h2 := pageF_len ((p : Int) * 256) (bldF l p).2.1 (bldF l p).2.2.1 (bldF l p).2.2.2
    rw [bldF]; dsimp only; omega
theorem bldF_rest (l : List Sp) : ∀ p, ∃ pre, l = pre ++ (bldF l p).2.1
  | 0 => ⟨[], rfl⟩
  | p + 1 => by
    obtain ⟨pre, hp⟩ := bldF_rest l p
    rw [bldF]; dsimp only
    rw [pageF_rest]
    refine ⟨pre ++ (bldF l p).2.1.takeWhile (fun s => decide (s.hi < (p : Int) * 256)), ?_⟩
    rw [List.append_assoc, List.takeWhile_append_dropWhile]; exact hp
theorem zc69 : zeroCells69 = ((List.replicate 4352 (0 : Int)).map u16 ++ [Value.slice none 0 0]).toArray := by kernel_rfl
/-- A table. -/
structure TB (B : Nat) (h : Hp) (tb : Nat) (F : List Int) (ba : Option Addr) (bc : Nat) (Bk : List (List Int)) : Prop where
  tl : Bl h tb (F.map u16 ++ [.slice ba Bk.length bc]) 69
  ow : Ow B 78 256 eB h ba bc Bk
  flen : F.length = 4352
  blen : ∀ x ∈ Bk, x.length = 256
theorem TB.lift {B : Nat} {h h' : Hp} {tb : Nat} {F : List Int} {ba : Option Addr} {bc : Nat} {Bk : List (List Int)} (t : TB B h tb F ba bc Bk) (x : Ext h h') : TB B h' tb F ba bc Bk := ⟨t.tl.lift x, t.ow.lift x, t.flen, t.blen⟩

theorem c20 (a : Option Addr) (cap : Nat) (l : List Sp) (h : Hp) (hl : Rd 3 eSp h a l) (hr : rgt (-1) l = true) (hcap : l.length ≤ cap) (hlen : l.length ≤ 2000000) :
    C prog 20 [.slice a l.length cap] h fun v h' => ∃ tb ba bc, v = .pointer (some ⟨tb, 0, none⟩) ∧ TB h.size h' tb (bldF l 4352).1 ba bc (bldF l 4352).2.2.1 ∧ Ext h h' := by
  refine enter func20 rfl ntmps20 results20 rfl rfl ?_
  refine x_seq ?_
  refine x_region ?_
  refine r1 rfl (p_as rfl) ?_
  refine o_nil ?_
  refine x_seq ?_
  refine x_seq ?_
  refine x_region ?_
  refine r1 rfl (p_mv rfl) ?_
  refine o1 rfl (s_call call31 rfl (c31 _ _ _ _ hl (by omega)) ?_)
  rintro v1 hh1 ⟨rfl, x1⟩
  have x0 := (x1 : Ext _ _)
  refine r1 rfl (p_not rfl) ?_
  refine o_nil ?_
  refine x_cond_f (by rw [hr]; rfl) ?_
  have hl0 := hl
  have hl := hl.lift x0
  refine x_skip ?_
  refine x_seq ?_
  refine x_region ?_
  refine r1 rfl (p_mv rfl) ?_
  refine o1 rfl (s_mm ?_)
  intro b9 hb9 n9
  have g9 := n9.ge x0
  have x0 := x0.tr (n9.ext)
  have hl := hl.lift (n9.ext)
  have m9 : Mp hb9 b9 [] 0 := n9.obj
  refine o1 rfl (s_mm ?_)
  intro b10 hb10 n10
  have g10 := n10.ge x0
  have hne910 : b9 ≠ b10 := Ne.symm (m9.nin n10)
  have x0 := x0.tr (n10.ext)
  have hl := hl.lift (n10.ext)
  have m9 := m9.lift (n10.ext)
  have m10 : Mp hb10 b10 [] 0 := n10.obj
  refine r1 rfl (p_bs (zs := (List.replicate 4352 (0 : Int)).map u16 ++ [Value.slice none 0 0]) runUnderlying69 (fun w => by rw [zeroValue69 w, zc69]) pl69 rfl) ?_
  refine o1 rfl (s_box rfl rfl ?_)
  intro b12 hb12 n12
  have g12 : _ ≤ b12 := n12.ge x0
  have nf_hl_12 := hl.nin n12
  have nf_m9_12 := m9.nin n12
  have nf_m10_12 := m10.nin n12
  have x0 := x0.tr (n12.ext)
  have hl := hl.lift (n12.ext)
  have m9 := m9.lift (n12.ext)
  have m10 := m10.lift (n12.ext)
  have l12 := n12.bl
  refine r1 rfl (p_bs runUnderlying71 zeroValue71 pl71 rfl) ?_
  show O _ _ _ _ ((_, .agg #[_, _, _, _]) :: _) _ _
  refine o1 rfl (s_box rfl rfl ?_)
  intro b14 hb14 n14
  have g14 : _ ≤ b14 := n14.ge x0
  have ne14_12 : b14 ≠ b12 := n14.ne l12
  have nf_hl_14 := hl.nin n14
  have nf_m9_14 := m9.nin n14
  have nf_m10_14 := m10.nin n14
  have x0 := x0.tr (n14.ext)
  have l12 := l12.lift (n14.ext)
  have hl := hl.lift (n14.ext)
  have m9 := m9.lift (n14.ext)
  have m10 := m10.lift (n14.ext)
  have l14 := n14.bl
  refine r1 rfl (p_as rfl) ?_
  refine o_nil ?_
  refine x_seq ?_
  refine x_seq ?_
  have s0 : BS h.size hb14 b14 b12 b9 b10 a cap l (List.replicate 4352 0) none 0 [] [] := ⟨l14, l12, m9, m10, Ow.nil, hl, fun hn => hl0.lt hn, List.length_replicate, fun x hx => (by cases hx), g14, g12, g9, g10, hne910⟩
  refine x_region ?_
  refine r1 rfl (p_mv rfl) ?_
  refine o_nil ?_
  refine x_block ?_
  refine x_loope (σ := Nat × Option Addr × Nat × Option Addr × Nat) (fun st_ E0 => match st_ with | (p, ra, rc, ba, bc) => (15, .int .i64 (p : Int)) :: E0) [(3, _)] (fun st_ h' => match st_ with | (p, ra, rc, ba, bc) => BS h.size h' b14 b12 b9 b10 ra rc (bldF l p).2.1 (bldF l p).1 ba bc (bldF l p).2.2.1 (bldF l p).2.2.2 ∧ Ext h h' ∧ (bldF l p).2.1.length ≤ rc ∧ p ≤ 4352) (fun st_ => match st_ with | (p, ra, rc, ba, bc) => 4352 - p) ((0, a, cap, none, 0)) ⟨rfl, rfl, trivial⟩ ?_ ?_
  · exact ⟨s0, x0, hcap, by omega⟩
  rintro ⟨p, ra, rc, ba, bc⟩ h' ⟨s, x0, hrc, hp⟩
  show X _ _ _ ((15, .int .i64 (p : Int)) :: _) _ _
  have lB := s.bl
  have hbl := bldF_len l p
  obtain ⟨pre, hpre⟩ := bldF_rest l p
  have hrl : (bldF l p).2.1.length ≤ 2000000 := by
    have : l.length = (pre ++ (bldF l p).2.1).length := by rw [← hpre]
    rw [List.length_append] at this; omega
  have hmem := rgt_mem hr
  have hb : ∀ s ∈ (bldF l p).2.1, 0 ≤ s.lo ∧ s.lo ≤ s.hi ∧ s.hi ≤ 1114111 ∧ 1 ≤ s.val ∧ s.val ≤ 65535 := fun y hy => by
    have := hmem y (by rw [hpre]; exact List.mem_append_right _ hy)
    omega
  have gB : cel h' b14 3 = some (.pointer (some ⟨b12, 0, none⟩)) := lB.get rfl
  refine x_seq ?_
  refine x_region ?_
  refine r1 rfl (p_lss rfl rfl) ?_
  refine o_nil ?_
  refine x_seq ?_
  refine x_cond rfl (fun hc => ?_) (fun hc => ?_)
  · skip
    have hlt : p < 4352 := by have := of_decide_eq_true hc; omega
    refine x_skip ?_
    refine x_seq ?_
    refine x_block ?_
    refine x_seq ?_
    refine x_region ?_
    refine r1 rfl (p_mv rfl) ?_
    refine r1 rfl (p_as rfl) ?_
    refine o_nil ?_
    refine x_regdt 11 (fun h' => cel h' b14 3 = some (.pointer (some ⟨b12, 0, none⟩))) (by kernel_rfl) ⟨by kernel_rfl, by kernel_rfl, by kernel_rfl, by kernel_rfl⟩ ?_
    intro tl
    refine e_take 0 tl rfl rfl (by kernel_rfl) (by kernel_rfl) rfl gB (fun h' gB => p_mv rfl) ?_
    refine e_take 1 tl rfl rfl (by kernel_rfl) (by kernel_rfl) rfl gB (fun h' gB => p_nc rfl) ?_
    refine e_take 2 tl rfl rfl (by kernel_rfl) (by kernel_rfl) rfl gB (fun h' gB => p_fld runUnderlying71 rfl sizeOf38 (by decide) rfl rfl) ?_
    refine e_take 3 tl rfl rfl (by kernel_rfl) (by kernel_rfl) rfl gB (fun h' gB => p_ld isAgg38 rfl gB) ?_
    refine e_take 4 tl rfl rfl (by kernel_rfl) (by kernel_rfl) rfl gB (fun h' gB => p_mv rfl) ?_
    refine e_take 5 tl rfl rfl (by kernel_rfl) (by kernel_rfl) rfl gB (fun h' gB => p_mv rfl) ?_
    refine e_take 6 tl rfl rfl (by kernel_rfl) (by kernel_rfl) rfl gB (fun h' gB => p_mv rfl) ?_
    refine e_take 7 tl rfl rfl (by kernel_rfl) (by kernel_rfl) rfl gB (fun h' gB => p_mul64 rfl rfl (by omega)) ?_
    refine e_take 9 tl rfl rfl (by kernel_rfl) (by kernel_rfl) rfl gB (fun h' gB => p_nc rfl) ?_
    refine e_take 10 tl rfl rfl (by kernel_rfl) (by kernel_rfl) rfl gB (fun h' gB => p_fld runUnderlying69 rfl sizeOf66 (by decide) rfl rfl) ?_
    refine e_one 8 (by kernel_rfl) rfl rfl rfl (s_call call43 rfl (c43 h.size b14 b12 b9 b10 ra rc _ _ ba bc _ _ ((p : Int) * 256) _ s (Kp.size x0) (by omega) hrc hrl (by omega) hb) ?_)
    rintro v4 hh4 ⟨ra', rc', ba', bc', rfl, sN, hrc', xN⟩
    have x0 := Kp.fr x0 xN (Nat.le_refl _)
    have gB := sN.bl.get (o := 3) rfl
    refine ⟨gB, ?_⟩
    refine e_end (by kernel_rfl) ?_
    refine r1 rfl (p_idxa runUnderlying66 sizeOf65 rfl rfl (by omega)) ?_
    refine o0 (s_st (T := 69) (cs := (bldF l p).1.map u16 ++ [.slice ba' (pageF ((p : Int) * 256) (bldF l p).2.1 (bldF l p).2.2.1 (bldF l p).2.2.2).2.2.1.length bc']) (d := 0 + 0 + (p : Int).toNat * 1) sizeOf65 rfl rfl rfl sN.tl (by simp [s.flen]; omega) ?_)
    intro hQ uQ
    have x0 := x0.upd uQ sN.gt'
    refine o_nil ?_
    refine x_region ?_
    refine r1 rfl (p_add64 rfl rfl (by omega)) ?_
    refine r1 rfl (p_mv rfl) ?_
    refine o_nil ?_
    have lT := uQ.bl
    rw [show 0 + 0 + (p : Int).toNat * 1 = p by omega, List.set_append_left _ _ (by simp [s.flen]; omega)] at lT
    have hset : ((bldF l p).1.map u16).set p (.int .u16 (pageF ((p : Int) * 256) (bldF l p).2.1 (bldF l p).2.2.1 (bldF l p).2.2.2).1) = ((bldF l p).1.set p (pageF ((p : Int) * 256) (bldF l p).2.1 (bldF l p).2.2.1 (bldF l p).2.2.2).1).map u16 := by
      rw [List.map_set]; rfl
    rw [hset] at lT
    refine ⟨(p + 1, ra', rc', ba', bc'), ⟨rfl, rfl, trivial⟩, ?_, ?_⟩
    · refine ⟨⟨uQ.kp.bl (sN.bl.neT sN.tl (by decide)) sN.bl, lT, sN.mk_.updn uQ (sN.mk_.ne sN.tl), sN.me_.updn uQ (sN.me_.ne sN.tl), sN.ow.updn uQ (fun hn => sN.ow.neT sN.tl (by decide) hn), sN.rd.updn uQ (fun hn e => by have := sN.old hn; have := sN.gt'; omega), sN.old, by rw [bldF]; dsimp only; rw [List.length_set]; exact s.flen, sN.blen, sN.gb, sN.gt', sN.gk, sN.ge, sN.ne⟩, x0, hrc', by omega⟩
    · dsimp only; omega
  · skip
    have hlt : p = 4352 := by have := of_decide_eq_false hc; omega
    subst hlt
    refine x_exit ?_
    refine x_seq ?_
    refine x_region ?_
    refine r1 rfl (p_mv rfl) ?_
    refine r1 rfl (p_nc rfl) ?_
    refine r1 rfl (p_fld runUnderlying71 rfl sizeOf38 (by decide) rfl rfl) ?_
    refine r1 rfl (p_ld isAgg38 rfl gB) ?_
    refine r1 rfl (p_as rfl) ?_
    refine o_nil ?_
    refine x_ret (fin1 rfl ?_)
    exact ⟨b12, ba, bc, rfl, ⟨s.tl, s.ow, s.flen, s.blen⟩, x0⟩
end Go.Proofs
