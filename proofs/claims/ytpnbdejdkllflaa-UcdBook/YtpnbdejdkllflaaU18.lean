import Derived.Test.YtpnbdejdkllflaaU17
set_option linter.unusedVariables false
namespace Go.Proofs
open Go.Lx Try

theorem bk_slf (a : Option Addr) (c m k : Nat) : bk (slf a c m k) = bk a := by
  unfold slf; split
  · rfl
  · cases a with
    | none => rfl
    | some p => simp only [bk, Option.map_some, Addr.add]; split <;> rfl
theorem BS.rest {B : Nat} {h h' : Hp} {bb tb rk re : Nat} {ra ra' : Option Addr} {rc rc' : Nat} {rest rest' : List Sp} {F : List Int} {ba : Option Addr} {bc : Nat} {Bk : List (List Int)} {Ev : List (Int × Int)} (s : BS B h bb tb rk re ra rc rest F ba bc Bk Ev)
    (u : Upd h h' bb [.slice ra' rest'.length rc', .map (some rk), .map (some re), .pointer (some ⟨tb, 0, none⟩)] 71) (rd : Rd 3 eSp h ra' rest') (old : rest' ≠ [] → bk ra' < B) : BS B h' bb tb rk re ra' rc' rest' F ba bc Bk Ev :=
  ⟨u.bl, u.kp.bl (s.tl.neT s.bl (by decide)) s.tl, s.mk_.updn u (s.mk_.ne s.bl), s.me_.updn u (s.me_.ne s.bl), s.ow.updn u (fun hn => s.ow.neT s.bl (by decide) hn), rd.updn u (fun hn e => by have := old hn; have := s.gb; omega), old, s.flen, s.blen, s.gb, s.gt', s.gk, s.ge, s.ne⟩
theorem BS.even {B : Nat} {h h' : Hp} {bb tb rk re : Nat} {ra : Option Addr} {rc : Nat} {rest : List Sp} {F : List Int} {ba : Option Addr} {bc : Nat} {Bk : List (List Int)} {Ev : List (Int × Int)} {v n : Int} (s : BS B h bb tb rk re ra rc rest F ba bc Bk Ev)
    (m : Mp h' re (entI .i64 .u16 0 Ev ++ [⟨.int .i64 v, .int .u16 n, Ev.length⟩]) (Ev.length + 1)) (k : Kp (· = re) h h') : BS B h' bb tb rk re ra rc rest F ba bc Bk (Ev ++ [(v, n)]) := by
  have e := entI_snoc .i64 .u16 v n Ev 0
  rw [Nat.zero_add] at e
  refine ⟨k.bl (s.me_.ne s.bl) s.bl, k.bl (s.me_.ne s.tl) s.tl, s.mk_.kp k s.ne, ?_, s.ow.kp k (fun hn e => s.ow.neM s.me_ hn e), s.rd.kp k (fun hn e => by have := s.old hn; have := s.ge; omega), s.old, s.flen, s.blen, s.gb, s.gt', s.gk, s.ge, s.ne⟩
  rw [e, List.length_append]; exact m

def fillN (v : Int) : List Int → Nat → Nat → List Int
  | x, _, 0 => x
  | x, a, n + 1 => fillN v (x.set a v) (a + 1) n
def paintF (f : Int) : List Sp → List Int → List Int
  | [], x => x
  | s :: r, x => if f + 256 ≤ s.lo then x else paintF f r (fillN s.val x (max s.lo f - f).toNat (min s.hi (f + 256 - 1) + 1 - max s.lo f).toNat)
def pageF (f : Int) (rest : List Sp) (Bk : List (List Int)) (Ev : List (Int × Int)) : Int × List Sp × List (List Int) × List (Int × Int) :=
  match (if (wholeF (rest.dropWhile fun s => decide (s.hi < f)) f).2 = true then fI (wholeF (rest.dropWhile fun s => decide (s.hi < f)) f).1 Ev 0 else none) with
  | some p => (p.2, rest.dropWhile (fun s => decide (s.hi < f)), Bk, Ev)
  | none => ((numF (paintF f (rest.dropWhile fun s => decide (s.hi < f)) (List.replicate 256 0)) Bk).1, rest.dropWhile (fun s => decide (s.hi < f)), (numF (paintF f (rest.dropWhile fun s => decide (s.hi < f)) (List.replicate 256 0)) Bk).2,
      if (wholeF (rest.dropWhile fun s => decide (s.hi < f)) f).2 = true then Ev ++ [((wholeF (rest.dropWhile fun s => decide (s.hi < f)) f).1, ((numF (paintF f (rest.dropWhile fun s => decide (s.hi < f)) (List.replicate 256 0)) Bk).1 : Int))] else Ev)
theorem paint_stop {f : Int} {l : List Sp} {i : Nat} {x : List Int} (h : ¬ i < l.length) : paintF f (l.drop i) x = x := by
  rw [List.drop_of_length_le (by omega)]; rfl
theorem fillN_len (v : Int) : ∀ (n : Nat) (x : List Int) (a : Nat), (fillN v x a n).length = x.length
  | 0, _, _ => rfl
  | n + 1, x, a => by rw [fillN, fillN_len v n]; simp

theorem c43 (B : Nat) (bB tb rk re : Nat) (ra : Option Addr) (rc : Nat) (rest : List Sp) (F : List Int) (ba : Option Addr) (bc : Nat) (Bk : List (List Int)) (Ev : List (Int × Int)) (f : Int) (h : Hp) (s : BS B h bB tb rk re ra rc rest F ba bc Bk Ev) (hB : B ≤ h.size) (hn : Bk.length ≤ 5000)
    (hrc : rest.length ≤ rc) (hrl : rest.length ≤ 2000000) (hf : 0 ≤ f ∧ f ≤ 2000000) (hb : ∀ s ∈ rest, 0 ≤ s.lo ∧ s.lo ≤ s.hi ∧ s.hi ≤ 1114111 ∧ 1 ≤ s.val ∧ s.val ≤ 65535) :
    C prog 43 [.pointer (some ⟨bB, 0, none⟩), .int .i64 f] h fun v h' => ∃ ra' rc' ba' bc', v = .int .u16 (pageF f rest Bk Ev).1 ∧ BS B h' bB tb rk re ra' rc' (pageF f rest Bk Ev).2.1 F ba' bc' (pageF f rest Bk Ev).2.2.1 (pageF f rest Bk Ev).2.2.2 ∧ (pageF f rest Bk Ev).2.1.length ≤ rc' ∧ Fr B h h' := by
  refine enter func43 rfl ntmps43 results43 rfl rfl ?_
  refine x_seq ?_
  refine x_region ?_
  refine r1 rfl (p_as rfl) ?_
  refine o_nil ?_
  refine x_seq ?_
  refine x_block ?_
  unfold pageF
  obtain ⟨R, hR⟩ : ∃ R, rest.dropWhile (fun s => decide (s.hi < f)) = R := ⟨_, rfl⟩
  rw [hR]
  refine x_loope (σ := Option Addr × Nat × List Sp) (fun st_ E0 => match st_ with | (ra, rc, rest) => E0) [(0, _), (1, _)] (fun st_ h' => match st_ with | (ra, rc, rest) => BS B h' bB tb rk re ra rc rest F ba bc Bk Ev ∧ Fr B h h' ∧ rest.dropWhile (fun s => decide (s.hi < f)) = R ∧ rest.length ≤ rc ∧ rest.length ≤ 2000000 ∧ (∀ s ∈ rest, 0 ≤ s.lo ∧ s.lo ≤ s.hi ∧ s.hi ≤ 1114111 ∧ 1 ≤ s.val ∧ s.val ≤ 65535)) (fun st_ => match st_ with | (ra, rc, rest) => rest.length) ((ra, rc, rest)) ⟨rfl, rfl, trivial⟩ ?_ ?_
  · exact ⟨s, Kp.refl _ _, hR, hrc, hrl, hb⟩
  rintro ⟨ra, rc, rest⟩ h' ⟨s, xF, hR, hrc, hrl, hb⟩
  dsimp only
  have lB := s.bl
  refine x_seq ?_
  refine x_seq ?_
  refine x_region ?_
  refine r1 rfl (p_mv rfl) ?_
  refine r1 rfl (p_nc rfl) ?_
  refine r1 rfl (p_fld runUnderlying71 rfl sizeOf33 (by decide) rfl rfl) ?_
  refine r1 rfl (p_ld isAgg33 rfl (lB.get rfl)) ?_
  refine r1 rfl (p_len runUnderlying33 rfl) ?_
  refine r1 rfl (p_gtr rfl rfl) ?_
  refine r1 rfl (p_mv rfl) ?_
  apply o_and 10 (dj := 20) (d := 30) rfl
  · intro hg1_7
    refine r1h rfl rfl rfl hg1_7 (p_mv rfl) ?_
    refine r1h rfl rfl rfl hg1_7 (p_nc rfl) ?_
    refine r1h rfl rfl rfl hg1_7 (p_fld runUnderlying71 rfl sizeOf33 (by decide) rfl rfl) ?_
    refine r1h rfl rfl rfl hg1_7 (p_ld isAgg33 rfl (lB.get rfl)) ?_
    refine r1h rfl rfl rfl hg1_7 (p_idx runUnderlying33 sizeOf52 rfl rfl (by have := of_decide_eq_true hg1_7; omega) (s.rd.isi (i := 0) (by omega) (by have := of_decide_eq_true hg1_7; omega))) ?_
    refine r1h rfl rfl rfl hg1_7 (p_fld runUnderlying52 rfl sizeOf3 (by decide) rfl rfl) ?_
    refine r1h rfl rfl rfl hg1_7 (p_ld isAgg3 rfl (s.rd.ati (i := 0) (by omega) (by have := of_decide_eq_true hg1_7; omega) (j := 1) rfl)) ?_
    refine r1h rfl rfl rfl hg1_7 (p_mv rfl) ?_
    refine r1h rfl rfl rfl hg1_7 (p_lss rfl rfl) ?_
    refine r1 rfl (p_pickt hg1_7 rfl rfl rfl) ?_
    exact o_nil ⟨rfl, rfl, by repeat (first | exact le_r _ | refine le_c rfl ?_)⟩
  · intro hg1_7
    refine o1n rfl rfl rfl hg1_7 ?_
    refine o1n rfl rfl rfl hg1_7 ?_
    refine o1n rfl rfl rfl hg1_7 ?_
    refine o1n rfl rfl rfl hg1_7 ?_
    refine o1n rfl rfl rfl hg1_7 ?_
    refine o1n rfl rfl rfl hg1_7 ?_
    refine o1n rfl rfl rfl hg1_7 ?_
    refine o1n rfl rfl rfl hg1_7 ?_
    refine o1n rfl rfl rfl hg1_7 ?_
    refine r1 rfl (p_pickf hg1_7 rfl rfl rfl) ?_
    exact o_nil ⟨rfl, rfl, by repeat (first | exact le_r _ | refine le_c rfl ?_)⟩
  refine o_nil ?_
  refine x_cond rfl (fun h1 => ?_) (fun h1 => ?_)
  · skip
    have h1' : 0 < rest.length ∧ (gt rest 0).hi < f := by have := h1; simp only [Bool.and_eq_true, decide_eq_true_eq] at this; omega
    refine x_skip ?_
    refine x_block ?_
    refine x_region ?_
    refine r1 rfl (p_mv rfl) ?_
    refine r1 rfl (p_mv rfl) ?_
    refine r1 rfl (p_nc rfl) ?_
    refine r1 rfl (p_fld runUnderlying71 rfl sizeOf33 (by decide) rfl rfl) ?_
    refine r1 rfl (p_ld isAgg33 rfl (lB.get rfl)) ?_
    refine r1 rfl (p_slfromn (m := 1) (n := (rest.drop 1).length) runUnderlying33 sizeOf52 rfl rfl (by omega) hrc (by simp)) ?_
    refine r1 rfl (p_nc rfl) ?_
    refine r1 rfl (p_fld runUnderlying71 rfl sizeOf33 (by decide) rfl rfl) ?_
    refine o0 (s_sto sizeOf33 rfl rfl rfl lB rfl ?_)
    intro h9 u9
    refine o_nil ?_
    have rd2 := s.rd.from_ rc 1 hrc
    have hol : rest.drop 1 ≠ [] → bk (slf ra rc 1 3) < B := fun hn => by rw [bk_slf]; exact s.old (fun e => hn (by rw [e]; rfl))
    refine ⟨(slf ra rc 1 3, rc - 1, rest.drop 1), ⟨rfl, rfl, trivial⟩, ?_, ?_⟩
    · refine ⟨s.rest u9 rd2 hol, xF.upd u9 s.gb, ?_, by simp; omega, by simp; omega, fun y hy => hb y (List.mem_of_mem_drop hy)⟩
      match rest, h1' with
      | a :: r, h1' =>
        have : decide (a.hi < f) = true := decide_eq_true h1'.2
        rw [← hR]
        show _ = (a :: r).dropWhile _
        rw [List.dropWhile_cons, if_pos this]; rfl
    · simp; omega
  · skip
    have h1' : ¬ (0 < rest.length ∧ (gt rest 0).hi < f) := by have := h1; simp only [Bool.and_eq_false_iff, decide_eq_false_iff_not] at this; omega
    have hRr : rest = R := by
      rw [← hR]
      match rest, h1' with
      | [], _ => rfl
      | a :: r, h1' =>
        have : decide (a.hi < f) = false := decide_eq_false fun hh => h1' ⟨by simp, hh⟩
        rw [List.dropWhile_cons, this]; rfl
    subst hRr
    obtain ⟨vv, hvv⟩ : ∃ vv, wholeF rest f = vv := ⟨_, rfl⟩
    obtain ⟨wv, we⟩ := vv
    rw [hvv]
    dsimp only
    refine x_exit ?_
    refine x_seq ?_
    refine x_region ?_
    refine r1 rfl (p_mv rfl) ?_
    refine r1 rfl (p_mv rfl) ?_
    refine o1 rfl (s_call call71 rfl (hvv ▸ c71 bB ra rc rest _ _ _ f _ s.bl s.rd hf) ?_)
    rintro v2 hh2 ⟨rfl, x2⟩
    have x0 := (x2 : Ext _ _)
    have lB := lB.lift (x2)
    have s := s.lift (x2)
    refine r1 rfl (p_mv rfl) ?_
    refine r1 rfl (p_ex rfl rfl) ?_
    refine r1 rfl (p_ex rfl rfl) ?_
    refine r1 rfl (p_as rfl) ?_
    refine r1 rfl (p_as rfl) ?_
    refine o_nil ?_
    refine x_seq ?_
    refine x_seq ?_
    refine x_region ?_
    refine r1 rfl (p_mv rfl) ?_
    refine r1 rfl (p_nc rfl) ?_
    refine r1 rfl (p_fld runUnderlying71 rfl sizeOf64 (by decide) rfl rfl) ?_
    refine r1 rfl (p_ld isAgg64 rfl (lB.get rfl)) ?_
    refine r1 rfl (p_mv rfl) ?_
    refine r1 rfl (p_lk (res := (fI wv Ev 0).map fun p => (p.1, .int .u16 p.2)) runUnderlying64 (fun e w => check_int runUnderlying3 wv e w) (fun w => find_int runUnderlying3 wv Ev 0 w) zeroValue65 rfl rfl s.me_) ?_
    refine r1 rfl (p_mv rfl) ?_
    refine r1 rfl (p_ex rfl rfl) ?_
    refine r1 rfl (p_ex rfl rfl) ?_
    refine r1 rfl (p_as rfl) ?_
    refine r1 rfl (p_as rfl) ?_
    refine o_nil ?_
    refine x_seq ?_
    refine x_region ?_
    refine r1 rfl (p_mv rfl) ?_
    refine r1 rfl (p_mv rfl) ?_
    apply o_and 2 (dj := 55) (d := 57) rfl
    · intro hg5_2
      refine r1h rfl rfl rfl hg5_2 (p_mv rfl) ?_
      refine r1 rfl (p_pickt hg5_2 rfl rfl rfl) ?_
      exact o_nil ⟨rfl, rfl, by repeat (first | exact le_r _ | refine le_c rfl ?_)⟩
    · intro hg5_2
      refine o1n rfl rfl rfl hg5_2 ?_
      refine r1 rfl (p_pickf hg5_2 rfl rfl rfl) ?_
      exact o_nil ⟨rfl, rfl, by repeat (first | exact le_r _ | refine le_c rfl ?_)⟩
    refine o_nil ?_
    refine x_cond rfl (fun h5 => ?_) (fun h5 => ?_)
    · skip
      have h5' : we = true ∧ (fI wv Ev 0).isSome = true := by simpa using h5
      obtain ⟨p, hp⟩ := Option.isSome_iff_exists.1 h5'.2
      rw [if_pos h5'.1, hp]
      refine x_seq ?_
      refine x_region ?_
      refine r1 rfl (p_mv rfl) ?_
      refine r1 rfl (p_as rfl) ?_
      refine o_nil ?_
      refine x_ret (fin1 rfl ?_)
      exact ⟨ra, rc, ba, bc, rfl, s, hrc, xF.ext x0⟩
    · skip
      have hno : (if we = true then fI wv Ev 0 else none) = none := by
        by_cases hw : we = true
        · rw [if_pos hw]
          cases hq : fI wv Ev 0 with
          | none => rfl
          | some q => rw [hw, hq] at h5; simp at h5
        · rw [if_neg hw]
      rw [hno]
      dsimp only
      have xF := xF.ext x0
      refine x_skip ?_
      refine x_seq ?_
      refine x_region ?_
      refine o1 rfl (s_al (cs := (List.replicate 256 0).map u16) zeroValue78 (by kernel_rfl) ?_)
      intro b9 hb9 n9
      have g9 : _ ≤ b9 := n9.ge (Ext.refl _)
      have ne9_B : b9 ≠ bB := n9.ne lB
      have nf_s_9 := s.nin n9
      have x0 := (n9.ext : Ext _ _)
      have lB := lB.lift (n9.ext)
      have s := s.lift (n9.ext)
      have l9 := n9.bl
      refine o_nil ?_
      refine x_seq ?_
      refine x_seq ?_
      refine x_region ?_
      refine r1 rfl (p_mv rfl) ?_
      refine r1 rfl (p_nc rfl) ?_
      refine r1 rfl (p_fld runUnderlying71 rfl sizeOf33 (by decide) rfl rfl) ?_
      refine r1 rfl (p_ld isAgg33 rfl (lB.get rfl)) ?_
      refine r1 rfl (p_len runUnderlying33 rfl) ?_
      refine r1 rfl (p_mv rfl) ?_
      refine o_nil ?_
      refine x_block ?_
      have hB9 : B ≤ b9 := by have h1 := Kp.size xF; omega
      have xF := xF.ext x0
      obtain ⟨RZ, hRZ⟩ : ∃ RZ, paintF f rest (List.replicate 256 0) = RZ := ⟨_, rfl⟩
      rw [hRZ]
      have nf9 := nf_s_9
      refine x_loope (σ := Nat × List Int) (fun st_ E0 => match st_ with | (i, Z) => (64, .int .i64 (i : Int)) :: E0) [(0, _), (1, _), (5, _), (6, _), (9, _), (62, _), (63, _)] (fun st_ h' => match st_ with | (i, Z) => BS B h' bB tb rk re ra rc rest F ba bc Bk Ev ∧ Fr B h h' ∧ Bl h' b9 (Z.map u16) 78 ∧ Z.length = 256 ∧ i ≤ rest.length ∧ paintF f (rest.drop i) Z = RZ) (fun st_ => match st_ with | (i, Z) => rest.length - i) ((0, List.replicate 256 0)) ⟨rfl, rfl, rfl, rfl, rfl, rfl, rfl, rfl, trivial⟩ ?_ ?_
      · exact ⟨s, xF, l9, List.length_replicate, by omega, hRZ⟩
      rintro ⟨i, Z⟩ h' ⟨s, xF, l9, hZ, hi, hRZ⟩
      show X _ _ _ ((64, .int .i64 (i : Int)) :: _) _ _
      have lB := s.bl
      refine x_seq ?_
      refine x_region ?_
      refine r1 rfl (p_lss rfl rfl) ?_
      refine o_nil ?_
      refine x_seq ?_
      refine x_cond rfl (fun hc => ?_) (fun hc => ?_)
      · skip
        have hlt : i < rest.length := by have := of_decide_eq_true hc; omega
        have hx : rest[i]? = some rest[i] := by simp [hlt]
        have hbs := hb rest[i] (List.getElem_mem hlt)
        have hdr := drop_cons rest i hlt
        rw [hdr, paintF] at hRZ
        generalize rest[i] = sp at *
        refine x_skip ?_
        refine x_seq ?_
        refine x_block ?_
        refine x_seq ?_
        refine x_region ?_
        refine r1 rfl (p_idx runUnderlying33 sizeOf52 rfl rfl (by omega) (s.rd.is' hlt)) ?_
        refine r1 rfl (p_lda isAgg52 rfl (s.rd.cel _ _ hx) sizeOf52) ?_
        refine o1 rfl (s_al zeroValue52 rfl ?_)
        intro b11 hb11 n11
        have g11 : _ ≤ b11 := n11.ge (Ext.refl _)
        have ne11_B : b11 ≠ bB := n11.ne lB
        have ne11_9 : b11 ≠ b9 := n11.ne l9
        have nf_s_11 := s.nin n11
        have x0 := (n11.ext : Ext _ _)
        have lB := lB.lift (n11.ext)
        have l9 := l9.lift (n11.ext)
        have s := s.lift (n11.ext)
        have l11 := n11.bl
        refine o0 (s_sta rfl rfl sizeOf52 rfl l11 rfl ?_)
        intro hh3 u3
        have x0 := x0.upd u3 g11
        have lB := u3.kp.bl (Ne.symm ne11_B) lB
        have l9 := u3.kp.bl (Ne.symm ne11_9) l9
        have l11 := u3.bl
        have s := s.updn u3 nf_s_11
        refine o_nil ?_
        refine x_seq ?_
        refine x_seq ?_
        refine x_region ?_
        refine r1 rfl (p_fld runUnderlying52 rfl sizeOf3 (by decide) rfl rfl) ?_
        refine r1 rfl (p_ld isAgg3 rfl (l11.get rfl)) ?_
        refine r1 rfl (p_mv rfl) ?_
        refine r1 rfl (p_add64 rfl rfl (by omega)) ?_
        refine r1 rfl (p_geq rfl rfl) ?_
        refine o_nil ?_
        have xF := xF.ext x0
        refine x_cond rfl (fun hbr => ?_) (fun hbr => ?_)
        · skip
          have hbr' : f + 256 ≤ sp.lo := of_decide_eq_true hbr
          rw [if_pos hbr'] at hRZ
          refine x_exit ?_
          refine x_seq ?_
          subst hRZ
          have hBs := Nat.le_trans hB (Kp.size xF)
          refine x_region ?_
          refine r1 rfl (p_mv rfl) ?_
          refine r1 rfl (p_ldan isAgg78 rfl (l9.gets rfl) sizeOf78 (by simp [hZ])) ?_
          refine o1 rfl (s_call call72 rfl (c72 B bB tb rk re ra rc rest F ba bc Bk Ev Z _ s hZ hBs hn) ?_)
          rintro v4 hh4 ⟨ba', bc', rfl, sN, xN⟩
          have xF := xF.trans xN
          refine r1 rfl (p_as rfl) ?_
          refine o_nil ?_
          refine x_seq ?_
          refine x_seq ?_
          refine x_region ?_
          refine r1 rfl (p_mv rfl) ?_
          refine o_nil ?_
          refine x_cond rfl (fun h18 => ?_) (fun h18 => ?_)
          · skip
            have we1 : we = true := h18
            rw [if_pos we1]
            rw [if_pos we1] at hno
            have lB := sN.bl
            refine x_region ?_
            refine r1 rfl (p_mv rfl) ?_
            refine r1 rfl (p_nc rfl) ?_
            refine r1 rfl (p_fld runUnderlying71 rfl sizeOf64 (by decide) rfl rfl) ?_
            refine r1 rfl (p_ld isAgg64 rfl (lB.get rfl)) ?_
            refine r1 rfl (p_mv rfl) ?_
            refine r1 rfl (p_mv rfl) ?_
            refine o0 (s_mu runUnderlying64 (fun e w => check_int runUnderlying3 wv e w) (fun w => by rw [find_int runUnderlying3 wv Ev 0 w, hno]; rfl) rfl rfl rfl sN.me_ ?_)
            intro hM mM kM
            refine o_nil ?_
            refine x_seq ?_
            refine x_region ?_
            refine r1 rfl (p_mv rfl) ?_
            refine r1 rfl (p_as rfl) ?_
            refine o_nil ?_
            refine x_ret (fin1 rfl ?_)
            exact ⟨ra, rc, ba', bc', rfl, sN.even mM kM, hrc, xF.own kM (fun k _ e => by subst e; exact s.ge)⟩
          · skip
            have we1 : ¬ we = true := by simpa using h18
            rw [if_neg we1]
            refine x_skip ?_
            refine x_seq ?_
            refine x_region ?_
            refine r1 rfl (p_mv rfl) ?_
            refine r1 rfl (p_as rfl) ?_
            refine o_nil ?_
            refine x_ret (fin1 rfl ?_)
            exact ⟨ra, rc, ba', bc', rfl, sN, hrc, xF⟩
        · skip
          have hbr' : ¬ f + 256 ≤ sp.lo := of_decide_eq_false hbr
          rw [if_neg hbr'] at hRZ
          refine x_skip ?_
          refine x_seq ?_
          refine x_region ?_
          refine r1 rfl (p_fld runUnderlying52 rfl sizeOf3 (by decide) rfl rfl) ?_
          refine r1 rfl (p_ld isAgg3 rfl (l11.get rfl)) ?_
          refine r1 rfl (p_mv rfl) ?_
          refine r1 rfl (p_max2 rfl rfl) ?_
          refine r1 rfl (p_as rfl) ?_
          refine o_nil ?_
          refine x_block ?_
          obtain ⟨a0, ha0⟩ : ∃ a0, (max sp.lo f - f).toNat = a0 := ⟨_, rfl⟩
          obtain ⟨cnt, hcnt⟩ : ∃ cnt, (min sp.hi (f + 256 - 1) + 1 - max sp.lo f).toNat = cnt := ⟨_, rfl⟩
          rw [ha0, hcnt] at hRZ
          obtain ⟨FZ, hFZ⟩ : ∃ FZ, fillN sp.val Z a0 cnt = FZ := ⟨_, rfl⟩
          rw [hFZ] at hRZ
          refine x_loope (σ := Nat × List Int) (fun st_ E0 => match st_ with | (k, Z) => (12, .int .i64 (max sp.lo f + (k : Int))) :: E0) [(0, _), (1, _), (5, _), (6, _), (9, _), (11, _), (62, _), (63, _), (64, _)] (fun st_ h' => match st_ with | (k, Z) => BS B h' bB tb rk re ra rc rest F ba bc Bk Ev ∧ Fr B h h' ∧ Bl h' b9 (Z.map u16) 78 ∧ Z.length = 256 ∧ Bl h' b11 (eSp sp) 52 ∧ k ≤ cnt ∧ fillN sp.val Z (a0 + k) (cnt - k) = FZ) (fun st_ => match st_ with | (k, Z) => cnt - k) ((0, Z)) ⟨(by show some (Value.int .i64 (max sp.lo f)) = some (.int .i64 (max sp.lo f + ((0 : Nat) : Int))); simp), rfl, rfl, rfl, rfl, rfl, rfl, rfl, rfl, rfl, trivial⟩ ?_ ?_
          · exact ⟨s, xF, l9, hZ, l11, by omega, hFZ⟩
          rintro ⟨k, Z⟩ h' ⟨s, xF, l9, hZ, l11, hk, hFZ⟩
          show X _ _ _ ((12, .int .i64 (max sp.lo f + (k : Int))) :: _) _ _
          have lB := s.bl
          refine x_seq ?_
          refine x_seq ?_
          refine x_region ?_
          refine r1 rfl (p_mv rfl) ?_
          refine r1 rfl (p_fld runUnderlying52 rfl sizeOf3 (by decide) rfl rfl) ?_
          refine r1 rfl (p_ld isAgg3 rfl (l11.get rfl)) ?_
          refine r1 rfl (p_mv rfl) ?_
          refine r1 rfl (p_add64 rfl rfl (by omega)) ?_
          refine r1 rfl (p_sub64 rfl rfl (by omega)) ?_
          refine r1 rfl (p_min2 rfl rfl) ?_
          refine r1 rfl (p_leq rfl rfl) ?_
          refine o_nil ?_
          refine x_cond rfl (fun hd => ?_) (fun hd => ?_)
          · skip
            have hd' : max sp.lo f + (k : Int) ≤ min sp.hi (f + 256 - 1) := of_decide_eq_true hd
            have hkc : k < cnt := by omega
            refine x_skip ?_
            refine x_seq ?_
            refine x_block ?_
            refine x_region ?_
            refine r1 rfl (p_mv rfl) ?_
            refine r1 rfl (p_mv rfl) ?_
            refine r1 rfl (p_sub64 rfl rfl (by omega)) ?_
            refine r1 rfl (p_fld runUnderlying52 rfl sizeOf3 (by decide) rfl rfl) ?_
            refine r1 rfl (p_ld isAgg3 rfl (l11.get rfl)) ?_
            refine r1 rfl (p_conv runUnderlying3 runUnderlying65 rfl (wrap_u16 (by omega))) ?_
            refine r1 rfl (p_idxa runUnderlying78 sizeOf65 rfl rfl (by omega)) ?_
            refine o0 (s_st (T := 78) (cs := Z.map u16) (d := 0 + (max sp.lo f + (k : Int) - f).toNat * 1) sizeOf65 rfl rfl rfl l9 (by rw [List.length_map, hZ]; omega) ?_)
            intro hQ uQ
            refine o_nil ?_
            refine x_region ?_
            refine r1 rfl (p_mv rfl) ?_
            refine r1 rfl (p_add64 rfl rfl (by omega)) ?_
            refine r1 rfl (p_as rfl) ?_
            refine o_nil ?_
            have l9q := uQ.bl
            have hset : (Z.map u16).set (0 + (max sp.lo f + (k : Int) - f).toNat * 1) (.int .u16 sp.val) = (Z.set (a0 + k) sp.val).map u16 := by
              rw [show 0 + (max sp.lo f + (k : Int) - f).toNat * 1 = a0 + k by omega, List.map_set]; rfl
            rw [hset] at l9q
            obtain ⟨m, hm⟩ : ∃ m, cnt - k = m + 1 := ⟨cnt - k - 1, by omega⟩
            rw [hm, fillN] at hFZ
            refine ⟨(k + 1, Z.set (a0 + k) sp.val), ⟨(by show some (Value.int .i64 (max sp.lo f + (k : Int) + 1)) = some (.int .i64 (max sp.lo f + ((k + 1 : Nat) : Int))); congr 2 <;> omega), rfl, rfl, rfl, rfl, rfl, rfl, rfl, rfl, rfl, trivial⟩, ?_, ?_⟩
            · exact ⟨s.updn uQ nf9, xF.upd uQ hB9, l9q, by simp [hZ], uQ.kp.bl ne11_9 l11, by omega, by rw [show cnt - (k + 1) = m by omega]; exact hFZ⟩
            · dsimp only; omega
          · skip
            have hd' : ¬ max sp.lo f + (k : Int) ≤ min sp.hi (f + 256 - 1) := of_decide_eq_false hd
            have hkc : cnt - k = 0 := by omega
            rw [hkc, fillN] at hFZ
            subst hFZ
            refine x_exit ?_
            refine x_region ?_
            refine r1 rfl (p_add64 rfl rfl (by omega)) ?_
            refine r1 rfl (p_mv rfl) ?_
            refine o_nil ?_
            refine ⟨(i + 1, Z), ⟨rfl, rfl, rfl, rfl, rfl, rfl, rfl, rfl, trivial⟩, ?_, ?_⟩
            · exact ⟨s, xF, l9, hZ, by omega, hRZ⟩
            · dsimp only; omega
      · skip
        have hlt : i = rest.length := by have := of_decide_eq_false hc; omega
        rw [paint_stop (by omega)] at hRZ
        refine x_exit ?_
        refine x_seq ?_
        subst hRZ
        have hBs := Nat.le_trans hB (Kp.size xF)
        refine x_region ?_
        refine r1 rfl (p_mv rfl) ?_
        refine r1 rfl (p_ldan isAgg78 rfl (l9.gets rfl) sizeOf78 (by simp [hZ])) ?_
        refine o1 rfl (s_call call72 rfl (c72 B bB tb rk re ra rc rest F ba bc Bk Ev Z _ s hZ hBs hn) ?_)
        rintro v7 hh7 ⟨ba', bc', rfl, sN, xN⟩
        have xF := xF.trans xN
        refine r1 rfl (p_as rfl) ?_
        refine o_nil ?_
        refine x_seq ?_
        refine x_seq ?_
        refine x_region ?_
        refine r1 rfl (p_mv rfl) ?_
        refine o_nil ?_
        refine x_cond rfl (fun h18 => ?_) (fun h18 => ?_)
        · skip
          have we1 : we = true := h18
          rw [if_pos we1]
          rw [if_pos we1] at hno
          have lB := sN.bl
          refine x_region ?_
          refine r1 rfl (p_mv rfl) ?_
          refine r1 rfl (p_nc rfl) ?_
          refine r1 rfl (p_fld runUnderlying71 rfl sizeOf64 (by decide) rfl rfl) ?_
          refine r1 rfl (p_ld isAgg64 rfl (lB.get rfl)) ?_
          refine r1 rfl (p_mv rfl) ?_
          refine r1 rfl (p_mv rfl) ?_
          refine o0 (s_mu runUnderlying64 (fun e w => check_int runUnderlying3 wv e w) (fun w => by rw [find_int runUnderlying3 wv Ev 0 w, hno]; rfl) rfl rfl rfl sN.me_ ?_)
          intro hM mM kM
          refine o_nil ?_
          refine x_seq ?_
          refine x_region ?_
          refine r1 rfl (p_mv rfl) ?_
          refine r1 rfl (p_as rfl) ?_
          refine o_nil ?_
          refine x_ret (fin1 rfl ?_)
          exact ⟨ra, rc, ba', bc', rfl, sN.even mM kM, hrc, xF.own kM (fun k _ e => by subst e; exact s.ge)⟩
        · skip
          have we1 : ¬ we = true := by simpa using h18
          rw [if_neg we1]
          refine x_skip ?_
          refine x_seq ?_
          refine x_region ?_
          refine r1 rfl (p_mv rfl) ?_
          refine r1 rfl (p_as rfl) ?_
          refine o_nil ?_
          refine x_ret (fin1 rfl ?_)
          exact ⟨ra, rc, ba', bc', rfl, sN, hrc, xF⟩
end Go.Proofs
