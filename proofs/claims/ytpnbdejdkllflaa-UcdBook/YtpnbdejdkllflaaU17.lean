import Derived.Test.YtpnbdejdkllflaaU16
import Derived.Test.YtpnbdejdkllflaaG7
set_option linter.unusedVariables false
namespace Go.Proofs
open Go.Lx Try

abbrev u16 : Int → Value := iv .u16
/-- A block's cells. -/
def eB (x : List Int) : List Value := ((x ++ List.replicate 256 0).take 256).map u16
theorem leneB : ∀ x, (eB x).length = 256 := fun x => by
  unfold eB; rw [List.length_map, List.length_take, List.length_append, List.length_replicate]; omega
theorem oneeB : ∀ x, ∀ v ∈ eB x, v.oneCell' = true := fun x v hv => by
  simp only [eB, List.mem_map] at hv
  obtain ⟨a, _, rfl⟩ := hv
  rfl
theorem eB_eq {x : List Int} (h : x.length = 256) : eB x = x.map u16 := by
  unfold eB
  rw [List.take_append_of_le_length (by omega), ← h, List.take_length]
theorem p_ldan {P : Program} {E : Env} {h : Hp} {ty : TypeId} {t : TypeId} {x : Operand} {b d n : Nat} {vs : List Value} (hg : ∀ w, (isAgg t).run P w = .ok true w) (hx : ev E x = some (.pointer (some ⟨b, d, none⟩)))
    (hc : ∀ j v, vs[j]? = some v → cel h b (d + j) = some v) (hz : ∀ w, (sizeOf t).run P w = .ok n w) (hn : vs.length = n) : SP P (.load t x) ty E h (.agg vs.toArray) := by
  subst hn; exact p_lda hg hx hc hz
/-- The builder and its table. -/
structure BS (B : Nat) (h : Hp) (bb tb rk re : Nat) (ra : Option Addr) (rc : Nat) (rest : List Sp) (F : List Int) (ba : Option Addr) (bc : Nat) (Bk : List (List Int)) (Ev : List (Int × Int)) : Prop where
  bl : Bl h bb [.slice ra rest.length rc, .map (some rk), .map (some re), .pointer (some ⟨tb, 0, none⟩)] 71
  tl : Bl h tb (F.map u16 ++ [.slice ba Bk.length bc]) 69
  mk_ : Mp h rk (entA .u16 .u16 0 Bk) Bk.length
  me_ : Mp h re (entI .i64 .u16 0 Ev) Ev.length
  ow : Ow B 78 256 eB h ba bc Bk
  rd : Rd 3 eSp h ra rest
  old : rest ≠ [] → bk ra < B
  flen : F.length = 4352
  blen : ∀ x ∈ Bk, x.length = 256
  gb : B ≤ bb
  gt' : B ≤ tb
  gk : B ≤ rk
  ge : B ≤ re
  ne : rk ≠ re
theorem BS.kp {B : Nat} {h h' : Hp} {bb tb rk re : Nat} {ra : Option Addr} {rc : Nat} {rest : List Sp} {F : List Int} {ba : Option Addr} {bc : Nat} {Bk : List (List Int)} {Ev : List (Int × Int)} {S : Nat → Prop} (s : BS B h bb tb rk re ra rc rest F ba bc Bk Ev) (x : Kp S h h') (h1 : ¬ S bb) (h2 : ¬ S tb) (h3 : ¬ S rk) (h4 : ¬ S re) (h5 : ba ≠ none → ¬ S (bk ba)) (h6 : rest ≠ [] → ¬ S (bk ra)) : BS B h' bb tb rk re ra rc rest F ba bc Bk Ev :=
  ⟨x.bl h1 s.bl, x.bl h2 s.tl, s.mk_.kp x h3, s.me_.kp x h4, s.ow.kp x h5, s.rd.kp x h6, s.old, s.flen, s.blen, s.gb, s.gt', s.gk, s.ge, s.ne⟩
theorem BS.lift {B : Nat} {h h' : Hp} {bb tb rk re : Nat} {ra : Option Addr} {rc : Nat} {rest : List Sp} {F : List Int} {ba : Option Addr} {bc : Nat} {Bk : List (List Int)} {Ev : List (Int × Int)} (s : BS B h bb tb rk re ra rc rest F ba bc Bk Ev) (x : Ext h h') : BS B h' bb tb rk re ra rc rest F ba bc Bk Ev := s.kp x (fun h => h) (fun h => h) (fun h => h) (fun h => h) (fun _ h => h) (fun _ h => h)
theorem BS.nin {B : Nat} {h h' : Hp} {bb tb rk re : Nat} {ra : Option Addr} {rc : Nat} {rest : List Sp} {F : List Int} {ba : Option Addr} {bc : Nat} {Bk : List (List Int)} {Ev : List (Int × Int)} (s : BS B h bb tb rk re ra rc rest F ba bc Bk Ev) {b : Nat} {o : Obj} (n : New h h' b o) : b ≠ bb ∧ b ≠ tb ∧ b ≠ rk ∧ b ≠ re ∧ (ba ≠ none → bk ba ≠ b) ∧ (rest ≠ [] → bk ra ≠ b) :=
  ⟨n.ne s.bl, n.ne s.tl, s.mk_.nin n, s.me_.nin n, s.ow.nin n, s.rd.nin n⟩
theorem BS.updn {B : Nat} {h h' : Hp} {bb tb rk re : Nat} {ra : Option Addr} {rc : Nat} {rest : List Sp} {F : List Int} {ba : Option Addr} {bc : Nat} {Bk : List (List Int)} {Ev : List (Int × Int)} (s : BS B h bb tb rk re ra rc rest F ba bc Bk Ev) {b : Nat} {cs : List Value} {T' : TypeId} (u : Upd h h' b cs T') (n : b ≠ bb ∧ b ≠ tb ∧ b ≠ rk ∧ b ≠ re ∧ (ba ≠ none → bk ba ≠ b) ∧ (rest ≠ [] → bk ra ≠ b)) : BS B h' bb tb rk re ra rc rest F ba bc Bk Ev :=
  s.kp u.kp (Ne.symm n.1) (Ne.symm n.2.1) (Ne.symm n.2.2.1) (Ne.symm n.2.2.2.1) n.2.2.2.2.1 n.2.2.2.2.2
theorem tget {h : Hp} {tb : Nat} {F : List Int} {v : Value} (tl : Bl h tb (F.map u16 ++ [v]) 69) (hf : F.length = 4352) : cel h tb 4352 = some v := by
  rw [tl.cel, List.getElem?_append_right (by simp; omega)]; simp [hf]

def wholeF (rest : List Sp) (f : Int) : Int × Bool :=
  if rest.length = 0 ∨ f + 256 ≤ (gt rest 0).lo then (0, true) else if (gt rest 0).lo ≤ f ∧ f + 256 - 1 ≤ (gt rest 0).hi then ((gt rest 0).val, true) else (0, false)

theorem c71 (bB : Nat) (ra : Option Addr) (rc : Nat) (rest : List Sp) (x1 x2 x3 : Value) (f : Int) (h : Hp) (lB : Bl h bB [.slice ra rest.length rc, x1, x2, x3] 71) (rd : Rd 3 eSp h ra rest) (hf : 0 ≤ f ∧ f ≤ 2000000) :
    C prog 71 [.pointer (some ⟨bB, 0, none⟩), .int .i64 f] h fun v h' => v = .tuple #[.int .i64 (wholeF rest f).1, .bool (wholeF rest f).2] ∧ Ext h h' := by
  refine enter func71 rfl ntmps71 results71 rfl rfl ?_
  refine x_seq ?_
  refine x_region ?_
  refine r1 rfl (p_as rfl) ?_
  refine r1 rfl (p_as rfl) ?_
  refine o_nil ?_
  refine x_seq ?_
  refine x_block ?_
  refine x_seq ?_
  refine x_region ?_
  refine r1 rfl (p_mv rfl) ?_
  refine r1 rfl (p_nc rfl) ?_
  refine r1 rfl (p_fld runUnderlying71 rfl sizeOf33 (by decide) rfl rfl) ?_
  refine r1 rfl (p_ld isAgg33 rfl (lB.get rfl)) ?_
  refine r1 rfl (p_len runUnderlying33 rfl) ?_
  refine r1 rfl (p_eql rfl rfl) ?_
  refine r1 rfl (p_mv rfl) ?_
  apply o_or 11 (dj := 13) (d := 24) rfl
  · intro hg1_7
    refine r1h rfl rfl rfl hg1_7 (p_mv rfl) ?_
    refine r1h rfl rfl rfl hg1_7 (p_nc rfl) ?_
    refine r1h rfl rfl rfl hg1_7 (p_fld runUnderlying71 rfl sizeOf33 (by decide) rfl rfl) ?_
    refine r1h rfl rfl rfl hg1_7 (p_ld isAgg33 rfl (lB.get rfl)) ?_
    refine r1h rfl rfl rfl hg1_7 (p_idx runUnderlying33 sizeOf52 rfl rfl (by have := of_decide_eq_false hg1_7; omega) (rd.isi (i := 0) (by omega) (by have := of_decide_eq_false hg1_7; omega))) ?_
    refine r1h rfl rfl rfl hg1_7 (p_fld runUnderlying52 rfl sizeOf3 (by decide) rfl rfl) ?_
    refine r1h rfl rfl rfl hg1_7 (p_ld isAgg3 rfl (rd.ati (i := 0) (by omega) (by have := of_decide_eq_false hg1_7; omega) (j := 0) rfl)) ?_
    refine r1h rfl rfl rfl hg1_7 (p_mv rfl) ?_
    refine r1h rfl rfl rfl hg1_7 (p_add64 rfl rfl (by omega)) ?_
    refine r1h rfl rfl rfl hg1_7 (p_geq rfl rfl) ?_
    refine r1 rfl (p_pickf hg1_7 rfl rfl rfl) ?_
    exact o_nil ⟨rfl, rfl, by repeat (first | exact le_r _ | refine le_c rfl ?_)⟩
  · intro hg1_7
    refine o1n rfl rfl rfl hg1_7 ?_
    refine o1n rfl rfl rfl hg1_7 ?_
    refine o1n rfl rfl rfl hg1_7 ?_
    refine o1n rfl rfl rfl hg1_7 ?_
    refine o1n rfl rfl rfl hg1_7 ?_
    refine o1n rfl rfl rfl hg1_7 ?_
    refine o1n rfl rfl rfl hg1_7 ?_
    refine o1n rfl rfl rfl hg1_7 ?_
    refine o1n rfl rfl rfl hg1_7 ?_
    refine o1n rfl rfl rfl hg1_7 ?_
    refine r1 rfl (p_pickt hg1_7 rfl rfl rfl) ?_
    exact o_nil ⟨rfl, rfl, by repeat (first | exact le_r _ | refine le_c rfl ?_)⟩
  refine r1 rfl (p_as rfl) ?_
  refine o_nil ?_
  refine x_cond rfl (fun h1 => ?_) (fun h1 => ?_)
  · skip
    have h1' : rest.length = 0 ∨ f + 256 ≤ (gt rest 0).lo := by simpa using h1
    rw [wholeF, if_pos h1']
    refine x_seq ?_
    refine x_region ?_
    refine r1 rfl (p_as rfl) ?_
    refine r1 rfl (p_as rfl) ?_
    refine o_nil ?_
    refine x_ret (fin2 rfl rfl ?_)
    exact ⟨rfl, Ext.refl _⟩
  · skip
    have h1' : ¬ (rest.length = 0 ∨ f + 256 ≤ (gt rest 0).lo) := by simpa using h1
    rw [wholeF, if_neg h1']
    have h0 : rest.length ≠ 0 := fun e => h1' (.inl e)
    refine x_seq ?_
    refine x_region ?_
    refine r1 rfl (p_mv rfl) ?_
    refine r1 rfl (p_nc rfl) ?_
    refine r1 rfl (p_fld runUnderlying71 rfl sizeOf33 (by decide) rfl rfl) ?_
    refine r1 rfl (p_ld isAgg33 rfl (lB.get rfl)) ?_
    refine r1 rfl (p_idx runUnderlying33 sizeOf52 rfl rfl (by omega) (rd.isi (i := 0) (by omega) (by omega))) ?_
    refine r1 rfl (p_fld runUnderlying52 rfl sizeOf3 (by decide) rfl rfl) ?_
    refine r1 rfl (p_ld isAgg3 rfl (rd.ati (i := 0) (by omega) (by omega) (j := 0) rfl)) ?_
    refine r1 rfl (p_mv rfl) ?_
    refine r1 rfl (p_leq rfl rfl) ?_
    refine r1 rfl (p_mv rfl) ?_
    apply o_and 12 (dj := 35) (d := 47) rfl
    · intro hg3_10
      refine r1h rfl rfl rfl hg3_10 (p_mv rfl) ?_
      refine r1h rfl rfl rfl hg3_10 (p_nc rfl) ?_
      refine r1h rfl rfl rfl hg3_10 (p_fld runUnderlying71 rfl sizeOf33 (by decide) rfl rfl) ?_
      refine r1h rfl rfl rfl hg3_10 (p_ld isAgg33 rfl (lB.get rfl)) ?_
      refine r1h rfl rfl rfl hg3_10 (p_idx runUnderlying33 sizeOf52 rfl rfl (by omega) (rd.isi (i := 0) (by omega) (by omega))) ?_
      refine r1h rfl rfl rfl hg3_10 (p_fld runUnderlying52 rfl sizeOf3 (by decide) rfl rfl) ?_
      refine r1h rfl rfl rfl hg3_10 (p_ld isAgg3 rfl (rd.ati (i := 0) (by omega) (by omega) (j := 1) rfl)) ?_
      refine r1h rfl rfl rfl hg3_10 (p_mv rfl) ?_
      refine r1h rfl rfl rfl hg3_10 (p_add64 rfl rfl (by omega)) ?_
      refine r1h rfl rfl rfl hg3_10 (p_sub64 rfl rfl (by omega)) ?_
      refine r1h rfl rfl rfl hg3_10 (p_geq rfl rfl) ?_
      refine r1 rfl (p_pickt hg3_10 rfl rfl rfl) ?_
      exact o_nil ⟨rfl, rfl, by repeat (first | exact le_r _ | refine le_c rfl ?_)⟩
    · intro hg3_10
      refine o1n rfl rfl rfl hg3_10 ?_
      refine o1n rfl rfl rfl hg3_10 ?_
      refine o1n rfl rfl rfl hg3_10 ?_
      refine o1n rfl rfl rfl hg3_10 ?_
      refine o1n rfl rfl rfl hg3_10 ?_
      refine o1n rfl rfl rfl hg3_10 ?_
      refine o1n rfl rfl rfl hg3_10 ?_
      refine o1n rfl rfl rfl hg3_10 ?_
      refine o1n rfl rfl rfl hg3_10 ?_
      refine o1n rfl rfl rfl hg3_10 ?_
      refine o1n rfl rfl rfl hg3_10 ?_
      refine r1 rfl (p_pickf hg3_10 rfl rfl rfl) ?_
      exact o_nil ⟨rfl, rfl, by repeat (first | exact le_r _ | refine le_c rfl ?_)⟩
    refine r1 rfl (p_as rfl) ?_
    refine o_nil ?_
    refine x_cond rfl (fun h2 => ?_) (fun h2 => ?_)
    · skip
      have h2' : (gt rest 0).lo ≤ f ∧ f + 256 - 1 ≤ (gt rest 0).hi := by simpa using h2
      rw [if_pos h2']
      refine x_seq ?_
      refine x_region ?_
      refine r1 rfl (p_mv rfl) ?_
      refine r1 rfl (p_nc rfl) ?_
      refine r1 rfl (p_fld runUnderlying71 rfl sizeOf33 (by decide) rfl rfl) ?_
      refine r1 rfl (p_ld isAgg33 rfl (lB.get rfl)) ?_
      refine r1 rfl (p_idx runUnderlying33 sizeOf52 rfl rfl (by omega) (rd.isi (i := 0) (by omega) (by omega))) ?_
      refine r1 rfl (p_fld runUnderlying52 rfl sizeOf3 (by decide) rfl rfl) ?_
      refine r1 rfl (p_ld isAgg3 rfl (rd.ati (i := 0) (by omega) (by omega) (j := 2) rfl)) ?_
      refine r1 rfl (p_as rfl) ?_
      refine r1 rfl (p_as rfl) ?_
      refine o_nil ?_
      refine x_ret (fin2 rfl rfl ?_)
      exact ⟨rfl, Ext.refl _⟩
    · skip
      have h2' : ¬ ((gt rest 0).lo ≤ f ∧ f + 256 - 1 ≤ (gt rest 0).hi) := by simpa using h2
      rw [if_neg h2']
      refine x_skip ?_
      refine x_seq ?_
      refine x_region ?_
      refine r1 rfl (p_as rfl) ?_
      refine r1 rfl (p_as rfl) ?_
      refine o_nil ?_
      refine x_ret (fin2 rfl rfl ?_)
      exact ⟨rfl, Ext.refl _⟩

def numF (x : List Int) (Bk : List (List Int)) : Nat × List (List Int) := match fA x Bk 0 with
  | some j => (j, Bk)
  | none => (Bk.length, Bk ++ [x])
theorem c72 (B : Nat) (bB tb rk re : Nat) (ra : Option Addr) (rc : Nat) (rest : List Sp) (F : List Int) (ba : Option Addr) (bc : Nat) (Bk : List (List Int)) (Ev : List (Int × Int)) (x : List Int) (h : Hp) (s : BS B h bB tb rk re ra rc rest F ba bc Bk Ev) (hx : x.length = 256) (hB : B ≤ h.size) (hn : Bk.length ≤ 5000) :
    C prog 72 [.pointer (some ⟨bB, 0, none⟩), .agg (x.map u16).toArray] h fun v h' => ∃ ba' bc', v = .int .u16 ((numF x Bk).1 : Int) ∧ BS B h' bB tb rk re ra rc rest F ba' bc' (numF x Bk).2 Ev ∧ Fr B h h' := by
  have lB := s.bl
  refine enter func72 rfl ntmps72 results72 rfl rfl ?_
  refine x_seq ?_
  refine x_region ?_
  refine o1 rfl (s_box rfl rfl ?_)
  intro b3 hb3 n3
  have g3 : _ ≤ b3 := n3.ge (Ext.refl _)
  have ne3_B : b3 ≠ bB := n3.ne lB
  have nf_s_3 := s.nin n3
  have x0 := (n3.ext : Ext _ _)
  have lB := lB.lift (n3.ext)
  have s := s.lift (n3.ext)
  have l3 := n3.bl
  refine r1 rfl (p_as rfl) ?_
  refine o_nil ?_
  refine x_seq ?_
  refine x_regt (by kernel_rfl) (by kernel_rfl) ?_
  refine t1 rfl (p_mv rfl) ?_
  refine t1 rfl (p_nc rfl) ?_
  refine t1 rfl (p_fld runUnderlying71 rfl sizeOf63 (by decide) rfl rfl) ?_
  refine t1 rfl (p_ld isAgg63 rfl (lB.get rfl)) ?_
  refine t1 rfl (p_ldan isAgg78 rfl (l3.gets rfl) sizeOf78 (by simp [hx])) ?_
  refine t1 rfl (p_lk (res := (fA x Bk 0).map fun j => (j, .int .u16 (j : Int))) runUnderlying63 (fun e w => check_row runUnderlying78 runUnderlying65 sizeOf65 x hx e w) (fun w => find_row runUnderlying78 runUnderlying65 sizeOf65 x hx Bk s.blen w) zeroValue65 rfl rfl s.mk_) ?_
  refine t1 rfl (p_mv rfl) ?_
  refine t1 rfl (p_ex rfl rfl) ?_
  refine t1 rfl (p_ex rfl rfl) ?_
  refine t1 rfl (p_as rfl) ?_
  refine t1 rfl (p_as rfl) ?_
  refine t_nil ?_
  refine x_seq ?_
  refine x_seq ?_
  refine x_region ?_
  refine r1 rfl (p_mv rfl) ?_
  refine r1 rfl (p_not rfl) ?_
  refine o_nil ?_
  refine x_cond rfl (fun h1 => ?_) (fun h1 => ?_)
  · skip
    have hnone : fA x Bk 0 = none := by
      cases hh : fA x Bk 0 with
      | none => rfl
      | some j => rw [hh] at h1; simp at h1
    have hnum : numF x Bk = (Bk.length, Bk ++ [x]) := by unfold numF; rw [hnone]
    rw [hnum]
    refine x_seq ?_
    refine x_region ?_
    refine r1 rfl (p_mv rfl) ?_
    refine r1 rfl (p_nc rfl) ?_
    refine r1 rfl (p_fld runUnderlying71 rfl sizeOf38 (by decide) rfl rfl) ?_
    refine r1 rfl (p_ld isAgg38 rfl (lB.get rfl)) ?_
    refine r1 rfl (p_nc rfl) ?_
    refine r1 rfl (p_fld runUnderlying69 rfl sizeOf67 (by decide) rfl rfl) ?_
    refine r1 rfl (p_ld isAgg67 rfl (tget s.tl s.flen)) ?_
    refine r1 rfl (p_len runUnderlying67 rfl) ?_
    refine r1 rfl (p_conv runUnderlying3 runUnderlying65 rfl (wrap_u16 (by omega))) ?_
    refine r1 rfl (p_as rfl) ?_
    refine o_nil ?_
    refine x_seq ?_
    refine x_regs 6 (by kernel_rfl) (by kernel_rfl) ?_
    refine t1 rfl (p_mv rfl) ?_
    refine t1 rfl (p_nc rfl) ?_
    refine t1 rfl (p_fld runUnderlying71 rfl sizeOf63 (by decide) rfl rfl) ?_
    refine t1 rfl (p_ld isAgg63 rfl (lB.get rfl)) ?_
    refine t1 rfl (p_ldan isAgg78 rfl (l3.gets rfl) sizeOf78 (by simp [hx])) ?_
    refine t1 rfl (p_mv rfl) ?_
    refine t_nil ?_
    refine o0 (s_mu runUnderlying63 (fun e w => check_row runUnderlying78 runUnderlying65 sizeOf65 x hx e w) (fun w => by rw [find_row runUnderlying78 runUnderlying65 sizeOf65 x hx Bk s.blen w, hnone]; rfl) rfl rfl rfl s.mk_ ?_)
    intro h9 m9 k9
    refine o_nil ?_
    have oB := s.ow.kp k9 (fun hn e => s.ow.neM s.mk_ hn e)
    have me9 := s.me_.kp k9 (fun e => s.ne e.symm)
    have rd9 := s.rd.kp k9 (fun hn e => by have := s.old hn; have := s.gk; omega)
    have lT := k9.bl (s.mk_.ne s.tl) s.tl
    have lB := k9.bl (s.mk_.ne s.bl) s.bl
    have l3 := k9.bl nf_s_3.2.2.1 l3
    have xF : Fr B h h9 := (Kp.of_ext x0).own k9 (fun k _ e => by subst e; exact s.gk)
    have hB9 : B ≤ h9.size := Nat.le_trans hB (Kp.size xF)
    refine x_regdt 14 (fun h' => Bl h' bB [.slice ra rest.length rc, .map (some rk), .map (some re), .pointer (some ⟨tb, 0, none⟩)] 71 ∧ Bl h' tb (F.map u16 ++ [.slice ba Bk.length bc]) 69 ∧ Bl h' b3 (x.map u16) 78) (by kernel_rfl) ⟨by kernel_rfl, by kernel_rfl, by kernel_rfl, by kernel_rfl⟩ ?_
    intro tl
    refine e_take 0 tl rfl rfl (by kernel_rfl) (by kernel_rfl) rfl ⟨lB, lT, l3⟩ (fun h' ⟨lB, lT, l3⟩ => p_mv rfl) ?_
    refine e_take 1 tl rfl rfl (by kernel_rfl) (by kernel_rfl) rfl ⟨lB, lT, l3⟩ (fun h' ⟨lB, lT, l3⟩ => p_nc rfl) ?_
    refine e_take 2 tl rfl rfl (by kernel_rfl) (by kernel_rfl) rfl ⟨lB, lT, l3⟩ (fun h' ⟨lB, lT, l3⟩ => p_fld runUnderlying71 rfl sizeOf38 (by decide) rfl rfl) ?_
    refine e_take 3 tl rfl rfl (by kernel_rfl) (by kernel_rfl) rfl ⟨lB, lT, l3⟩ (fun h' ⟨lB, lT, l3⟩ => p_ld isAgg38 rfl (lB.get rfl)) ?_
    refine e_take 4 tl rfl rfl (by kernel_rfl) (by kernel_rfl) rfl ⟨lB, lT, l3⟩ (fun h' ⟨lB, lT, l3⟩ => p_mv rfl) ?_
    refine e_take 5 tl rfl rfl (by kernel_rfl) (by kernel_rfl) rfl ⟨lB, lT, l3⟩ (fun h' ⟨lB, lT, l3⟩ => p_nc rfl) ?_
    refine e_take 6 tl rfl rfl (by kernel_rfl) (by kernel_rfl) rfl ⟨lB, lT, l3⟩ (fun h' ⟨lB, lT, l3⟩ => p_fld runUnderlying71 rfl sizeOf38 (by decide) rfl rfl) ?_
    refine e_take 7 tl rfl rfl (by kernel_rfl) (by kernel_rfl) rfl ⟨lB, lT, l3⟩ (fun h' ⟨lB, lT, l3⟩ => p_ld isAgg38 rfl (lB.get rfl)) ?_
    refine e_take 8 tl rfl rfl (by kernel_rfl) (by kernel_rfl) rfl ⟨lB, lT, l3⟩ (fun h' ⟨lB, lT, l3⟩ => p_nc rfl) ?_
    refine e_take 9 tl rfl rfl (by kernel_rfl) (by kernel_rfl) rfl ⟨lB, lT, l3⟩ (fun h' ⟨lB, lT, l3⟩ => p_fld runUnderlying69 rfl sizeOf67 (by decide) rfl rfl) ?_
    refine e_take 10 tl rfl rfl (by kernel_rfl) (by kernel_rfl) rfl ⟨lB, lT, l3⟩ (fun h' ⟨lB, lT, l3⟩ => p_ld isAgg67 rfl (tget lT s.flen)) ?_
    refine e_take 11 tl rfl rfl (by kernel_rfl) (by kernel_rfl) rfl ⟨lB, lT, l3⟩ (fun h' ⟨lB, lT, l3⟩ => p_ldan isAgg78 rfl (l3.gets rfl) sizeOf78 (by simp [hx])) ?_
    refine e_one 12 (by kernel_rfl) rfl rfl rfl (s_bsl1 (zs := zeroCells78.toList) runUnderlying67 sizeOf78 zeroValue78 rfl (by decide) (by decide) (by kernel_rfl) rfl rfl (by simp [hx]) ?_)
    intro b45 hb45 n45
    have hws : x.map u16 = fl eB [x] := by simp [fl, eB_eq hx]
    have w45 := n45.ow (B := 0) (Nat.zero_le _) [x] hws leneB
    have lB := lB.lift n45.ext
    have lT := lT.lift n45.ext
    have l3 := l3.lift n45.ext
    have oB := oB.lift n45.ext
    have m9 := m9.lift n45.ext
    have me9 := me9.lift n45.ext
    have rd9 := rd9.lift n45.ext
    have x0 := n45.ext
    refine ⟨⟨lB, lT, l3⟩, ?_⟩
    refine e_one 13 (by kernel_rfl) rfl rfl rfl (s_app runUnderlying67 runUnderlying67 sizeOf78 typeInfo78 zeroValue78 rfl (by kernel_rfl) rfl leneB oneeB rfl rfl oB (w45.rd leneB) (Nat.le_trans hB9 (Kp.size x0)) (by simp only [List.length_cons, List.length_nil]; omega) ?_)
    intro aA cA hA wA kA
    have lB := kA.bl (oB.natT lB (by decide)) lB
    have lT := kA.bl (oB.natT lT (by decide)) lT
    have l3 := kA.bl (ne_at nf_s_3.2.2.2.2.1) l3
    have m9 := m9.kp kA (fun hat => oB.neM m9 hat.1 hat.2.symm)
    have me9 := me9.kp kA (fun hat => oB.neM me9 hat.1 hat.2.symm)
    have rd9 := rd9.kp kA (fun hn hat => by have h1 := s.old hn; have h2 := oB.ge hat.1; have := hat.2; omega)
    have xF := (xF.ext x0).app kA oB
    refine ⟨⟨lB, lT, l3⟩, ?_⟩
    refine e_end (by kernel_rfl) ?_
    refine r1 rfl (p_nc rfl) ?_
    refine r1 rfl (p_fld runUnderlying69 rfl sizeOf67 (by decide) rfl rfl) ?_
    refine o0 (s_st (T := 69) (cs := F.map u16 ++ [.slice ba Bk.length bc]) (d := 4352) sizeOf67 rfl rfl rfl lT (by simp [s.flen]) ?_)
    intro hZ uZ
    refine o_nil ?_
    refine x_seq ?_
    refine x_region ?_
    refine r1 rfl (p_mv rfl) ?_
    refine r1 rfl (p_as rfl) ?_
    refine o_nil ?_
    refine x_ret (fin1 rfl ?_)
    have hcs : (F.map u16 ++ [Value.slice ba Bk.length bc]).set 4352 (.slice aA (Bk ++ [x]).length cA) = F.map u16 ++ [.slice aA (Bk ++ [x]).length cA] := by
      rw [List.set_append_right _ _ (by simp [s.flen])]; simp [s.flen]
    have lT2 := uZ.bl
    rw [hcs] at lT2
    have hent := entA_snoc .u16 .u16 x Bk 0
    rw [Nat.zero_add] at hent
    refine ⟨aA, cA, rfl, ⟨uZ.kp.bl (lB.neT lT (by decide)) lB, lT2, ?_, me9.updn uZ (me9.ne lT), wA.updn uZ (fun hn => wA.neT lT (by decide) hn), rd9.updn uZ (fun hn e => by have := s.old hn; have := s.gt'; omega), s.old, s.flen, ?_, s.gb, s.gt', s.gk, s.ge, s.ne⟩, xF.upd uZ s.gt'⟩
    · rw [hent, List.length_append]
      exact m9.updn uZ (m9.ne lT)
    · intro y hy
      rcases List.mem_append.1 hy with hy | hy
      · exact s.blen y hy
      · simp only [List.mem_singleton] at hy; subst hy; exact hx
  · skip
    obtain ⟨j, hj⟩ : ∃ j, fA x Bk 0 = some j := by
      cases hh : fA x Bk 0 with
      | none => rw [hh] at h1; simp at h1
      | some j => exact ⟨j, rfl⟩
    have hnum : numF x Bk = (j, Bk) := by unfold numF; rw [hj]
    rw [hnum]
    refine x_skip ?_
    refine x_seq ?_
    refine x_region ?_
    refine r1 rfl (p_mv rfl) ?_
    refine r1 rfl (p_as rfl) ?_
    refine o_nil ?_
    refine x_ret (fin1 rfl ?_)
    refine ⟨ba, bc, ?_, s, Kp.of_ext x0⟩
    rw [hj]; rfl
end Go.Proofs
