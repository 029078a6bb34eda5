import Derived.Test.YtpnbdejdkllflaaU19
set_option linter.unusedVariables false
namespace Go.Proofs
open Go.Lx Try

theorem TB.nin {B : Nat} {h h' : Hp} {tb : Nat} {F : List Int} {ba : Option Addr} {bc : Nat} {Bk : List (List Int)} (t : TB B h tb F ba bc Bk) {b : Nat} {o : Obj} (n : New h h' b o) : b ≠ tb ∧ (ba ≠ none → bk ba ≠ b) := ⟨n.ne t.tl, t.ow.nin n⟩
theorem TB.updn {B : Nat} {h h' : Hp} {tb : Nat} {F : List Int} {ba : Option Addr} {bc : Nat} {Bk : List (List Int)} (t : TB B h tb F ba bc Bk) {b : Nat} {cs : List Value} {T : TypeId} (u : Upd h h' b cs T) (n : b ≠ tb ∧ (ba ≠ none → bk ba ≠ b)) : TB B h' tb F ba bc Bk :=
  ⟨u.kp.bl (Ne.symm n.1) t.tl, t.ow.updn u n.2, t.flen, t.blen⟩
/-- A table's answer. -/
def getF (F : List Int) (Bk : List (List Int)) (n : Int) : Int := if n < 0 ∨ 1114111 < n ∨ Bk.length = 0 then 0 else gt (gt Bk (gt F (n / 256))) (n % 256)
structure TW (F : List Int) (Bk : List (List Int)) : Prop where
  f : ∀ i : Int, 0 ≤ i → i < 4352 → 0 ≤ gt F i ∧ gt F i < Bk.length
  v : ∀ x ∈ Bk, ∀ v ∈ x, 0 ≤ v ∧ v ≤ 65535
theorem tF {h : Hp} {tb : Nat} {F : List Int} {v : Value} (tl : Bl h tb (F.map u16 ++ [v]) 69) (hf : F.length = 4352) {i : Int} (h0 : 0 ≤ i) (h1 : i < 4352) : cel h tb (0 + 0 + i.toNat * 1) = some (.int .u16 (gt F i)) := by
  rw [tl.cel, List.getElem?_append_left (by simp; omega), show 0 + 0 + i.toNat * 1 = i.toNat by omega, List.getElem?_map, gt_get h0 (by omega)]
  rfl
theorem eB_get {x : List Int} (hx : x.length = 256) {i : Int} (h0 : 0 ≤ i) (h1 : i < 256) : (eB x)[i.toNat * 1]? = some (.int .u16 (gt x i)) := by
  rw [eB_eq hx, Nat.mul_one, List.getElem?_map, gt_get h0 (by omega)]
  rfl
theorem gt_memr {Bk : List (List Int)} {i : Int} (h0 : 0 ≤ i) (h1 : i < Bk.length) : gt Bk i ∈ Bk := List.mem_of_getElem? (gt_get h0 h1)
theorem c26 (B : Nat) (tb : Nat) (F : List Int) (ba : Option Addr) (bc : Nat) (Bk : List (List Int)) (n : Int) (h : Hp) (t : TB B h tb F ba bc Bk) (w : TW F Bk) (hn : B32 n) :
    C prog 26 [.pointer (some ⟨tb, 0, none⟩), .int .i64 n] h fun v h' => v = .int .i64 (getF F Bk n) ∧ Ext h h' := by
  refine enter func26 rfl ntmps26 results26 rfl rfl ?_
  refine x_seq ?_
  refine x_region ?_
  refine r1 rfl (p_as rfl) ?_
  refine o_nil ?_
  refine x_seq ?_
  refine x_seq ?_
  refine x_region ?_
  refine r1 rfl (p_mv rfl) ?_
  refine r1 rfl (p_eqlp runUnderlying38 rfl rfl) ?_
  refine r1 rfl (p_mv rfl) ?_
  apply o_or 3 (dj := 7) (d := 10) rfl
  · intro hg1_3
    refine r1h rfl rfl rfl hg1_3 (p_mv rfl) ?_
    refine r1h rfl rfl rfl hg1_3 (p_lss rfl rfl) ?_
    refine r1 rfl (p_pickf hg1_3 rfl rfl rfl) ?_
    exact o_nil ⟨rfl, rfl, by repeat (first | exact le_r _ | refine le_c rfl ?_)⟩
  · intro hg1_3
    refine o1n rfl rfl rfl hg1_3 ?_
    refine o1n rfl rfl rfl hg1_3 ?_
    refine r1 rfl (p_pickt hg1_3 rfl rfl rfl) ?_
    exact o_nil ⟨rfl, rfl, by repeat (first | exact le_r _ | refine le_c rfl ?_)⟩
  refine r1 rfl (p_mv rfl) ?_
  apply o_or 3 (dj := 11) (d := 14) rfl
  · intro hg1_7
    refine r1h rfl rfl rfl hg1_7 (p_mv rfl) ?_
    refine r1h rfl rfl rfl hg1_7 (p_gtr rfl rfl) ?_
    refine r1 rfl (p_pickf hg1_7 rfl rfl rfl) ?_
    exact o_nil ⟨rfl, rfl, by repeat (first | exact le_r _ | refine le_c rfl ?_)⟩
  · intro hg1_7
    refine o1n rfl rfl rfl hg1_7 ?_
    refine o1n rfl rfl rfl hg1_7 ?_
    refine r1 rfl (p_pickt hg1_7 rfl rfl rfl) ?_
    exact o_nil ⟨rfl, rfl, by repeat (first | exact le_r _ | refine le_c rfl ?_)⟩
  refine r1 rfl (p_mv rfl) ?_
  apply o_or 7 (dj := 15) (d := 22) rfl
  · intro hg1_11
    refine r1h rfl rfl rfl hg1_11 (p_mv rfl) ?_
    refine r1h rfl rfl rfl hg1_11 (p_nc rfl) ?_
    refine r1h rfl rfl rfl hg1_11 (p_fld runUnderlying69 rfl sizeOf67 (by decide) rfl rfl) ?_
    refine r1h rfl rfl rfl hg1_11 (p_ld isAgg67 rfl (tget t.tl t.flen)) ?_
    refine r1h rfl rfl rfl hg1_11 (p_len runUnderlying67 rfl) ?_
    refine r1h rfl rfl rfl hg1_11 (p_eql rfl rfl) ?_
    refine r1 rfl (p_pickf hg1_11 rfl rfl rfl) ?_
    exact o_nil ⟨rfl, rfl, by repeat (first | exact le_r _ | refine le_c rfl ?_)⟩
  · intro hg1_11
    refine o1n rfl rfl rfl hg1_11 ?_
    refine o1n rfl rfl rfl hg1_11 ?_
    refine o1n rfl rfl rfl hg1_11 ?_
    refine o1n rfl rfl rfl hg1_11 ?_
    refine o1n rfl rfl rfl hg1_11 ?_
    refine o1n rfl rfl rfl hg1_11 ?_
    refine r1 rfl (p_pickt hg1_11 rfl rfl rfl) ?_
    exact o_nil ⟨rfl, rfl, by repeat (first | exact le_r _ | refine le_c rfl ?_)⟩
  refine o_nil ?_
  refine x_cond rfl (fun h1 => ?_) (fun h1 => ?_)
  · skip
    have h1' : n < 0 ∨ 1114111 < n ∨ Bk.length = 0 := by
      simp only [Option.isNone_some, Bool.false_or, Bool.or_eq_true, decide_eq_true_eq] at h1; omega
    rw [getF, if_pos h1']
    refine x_seq ?_
    refine x_region ?_
    refine r1 rfl (p_as rfl) ?_
    refine o_nil ?_
    refine x_ret (fin1 rfl ?_)
    exact ⟨rfl, Ext.refl _⟩
  · skip
    have h1' : ¬ (n < 0 ∨ 1114111 < n ∨ Bk.length = 0) := by
      simp only [Option.isNone_some, Bool.false_or, Bool.or_eq_false_iff, decide_eq_false_iff_not] at h1; omega
    rw [getF, if_neg h1']
    have hf := w.f (n / 256) (by omega) (by omega)
    have hbm := gt_memr hf.1 hf.2
    have hbl := t.blen _ hbm
    have hvm := w.v _ hbm (gt (gt Bk (gt F (n / 256))) (n % 256)) (gt_mem (by omega) (by omega))
    refine x_skip ?_
    refine x_seq ?_
    refine x_regt (by kernel_rfl) (by kernel_rfl) ?_
    refine t1 rfl (p_mv rfl) ?_
    refine t1 rfl (p_nc rfl) ?_
    refine t1 rfl (p_fld runUnderlying69 rfl sizeOf67 (by decide) rfl rfl) ?_
    refine t1 rfl (p_ld isAgg67 rfl (tget t.tl t.flen)) ?_
    refine t1 rfl (p_mv rfl) ?_
    refine t1 rfl (p_mv rfl) ?_
    refine t1 rfl (p_quo rfl rfl (by omega) (by omega) (wrap_i64 (by omega))) ?_
    refine t1 rfl (p_nc rfl) ?_
    refine t1 rfl (p_fld runUnderlying69 rfl sizeOf66 (by decide) rfl rfl) ?_
    refine t1 rfl (p_idxa runUnderlying66 sizeOf65 rfl rfl (by omega)) ?_
    refine t1 rfl (p_ld isAgg65 rfl (tF t.tl t.flen (by omega) (by omega))) ?_
    refine t1 rfl (p_mv rfl) ?_
    refine t1 rfl (p_rem rfl rfl (by omega) (by omega)) ?_
    refine t1 rfl (p_idx runUnderlying67 sizeOf78 rfl rfl hf ((t.ow.rd leneB).isi hf.1 hf.2)) ?_
    refine t1 rfl (p_idxa runUnderlying78 sizeOf65 rfl rfl (by omega)) ?_
    refine t1 rfl (p_ld isAgg65 rfl ((t.ow.rd leneB).ati hf.1 hf.2 (eB_get hbl (by omega) (by omega)))) ?_
    refine t1 rfl (p_conv runUnderlying65 runUnderlying3 rfl (wrap_i64 (by omega))) ?_
    refine t1 rfl (p_as rfl) ?_
    refine t_nil ?_
    refine x_ret (fin1 rfl ?_)
    exact ⟨rfl, Ext.refl _⟩

theorem c21 (B : Nat) (tb : Nat) (F : List Int) (ba : Option Addr) (bc : Nat) (Bk : List (List Int)) (h : Hp) (t : TB B h tb F ba bc Bk) :
    C prog 21 [.pointer (some ⟨tb, 0, none⟩)] h fun v h' => v = .int .i64 (Bk.length : Int) ∧ Ext h h' := by
  refine enter func21 rfl ntmps21 results21 rfl rfl ?_
  refine x_seq ?_
  refine x_region ?_
  refine r1 rfl (p_as rfl) ?_
  refine o_nil ?_
  refine x_seq ?_
  refine x_seq ?_
  refine x_region ?_
  refine r1 rfl (p_mv rfl) ?_
  refine r1 rfl (p_eqlp runUnderlying38 rfl rfl) ?_
  refine o_nil ?_
  refine x_cond_f rfl ?_
  refine x_skip ?_
  refine x_seq ?_
  refine x_region ?_
  refine r1 rfl (p_mv rfl) ?_
  refine r1 rfl (p_nc rfl) ?_
  refine r1 rfl (p_fld runUnderlying69 rfl sizeOf67 (by decide) rfl rfl) ?_
  refine r1 rfl (p_ld isAgg67 rfl (tget t.tl t.flen)) ?_
  refine r1 rfl (p_len runUnderlying67 rfl) ?_
  refine r1 rfl (p_as rfl) ?_
  refine o_nil ?_
  refine x_ret (fin1 rfl ?_)
  exact ⟨rfl, Ext.refl _⟩

theorem c6 (B : Nat) (bk tb : Nat) (F : List Int) (ba : Option Addr) (bc : Nat) (Bk : List (List Int)) (h : Hp) (lK : Bl h bk [.pointer (some ⟨tb, 0, none⟩)] 41) (t : TB B h tb F ba bc Bk) :
    C prog 6 [.pointer (some ⟨bk, 0, none⟩)] h fun v h' => v = .int .i64 (Bk.length : Int) ∧ Ext h h' := by
  have bK := bk
  refine enter func6 rfl ntmps6 results6 rfl rfl ?_
  refine x_seq ?_
  refine x_region ?_
  refine r1 rfl (p_as rfl) ?_
  refine o_nil ?_
  refine x_seq ?_
  refine x_seq ?_
  refine x_region ?_
  refine r1 rfl (p_mv rfl) ?_
  refine r1 rfl (p_eqlp runUnderlying24 rfl rfl) ?_
  refine o_nil ?_
  refine x_cond_f rfl ?_
  refine x_skip ?_
  refine x_seq ?_
  refine x_region ?_
  refine r1 rfl (p_mv rfl) ?_
  refine r1 rfl (p_nc rfl) ?_
  refine r1 rfl (p_fld runUnderlying41 rfl sizeOf38 (by decide) rfl rfl) ?_
  refine r1 rfl (p_ld isAgg38 rfl (lK.get rfl)) ?_
  refine o1 rfl (s_call call21 rfl (c21 B tb F ba bc Bk _ t) ?_)
  rintro v1 hh1 ⟨rfl, x1⟩
  have x0 := (x1 : Ext _ _)
  have t := t.lift (x1)
  refine r1 rfl (p_as rfl) ?_
  refine o_nil ?_
  refine x_ret (fin1 rfl ?_)
  exact ⟨rfl, x0⟩
theorem c6n (h : Hp) : C prog 6 [.pointer none] h fun v h' => v = .int .i64 0 ∧ Ext h h' := by
  refine enter func6 rfl ntmps6 results6 rfl rfl ?_
  refine x_seq ?_
  refine x_region ?_
  refine r1 rfl (p_as rfl) ?_
  refine o_nil ?_
  refine x_seq ?_
  refine x_seq ?_
  refine x_region ?_
  refine r1 rfl (p_mv rfl) ?_
  refine r1 rfl (p_eqlp runUnderlying24 rfl rfl) ?_
  refine o_nil ?_
  refine x_cond_t rfl ?_
  refine x_seq ?_
  refine x_region ?_
  refine r1 rfl (p_as rfl) ?_
  refine o_nil ?_
  refine x_ret (fin1 rfl ?_)
  exact ⟨rfl, Ext.refl _⟩

theorem c8 (B : Nat) (bK tb : Nat) (F : List Int) (ba : Option Addr) (bc : Nat) (Bk : List (List Int)) (n : Int) (h : Hp) (lK : Bl h bK [.pointer (some ⟨tb, 0, none⟩)] 41) (t : TB B h tb F ba bc Bk) (w : TW F Bk) (hn : B32 n) :
    C prog 8 [.pointer (some ⟨bK, 0, none⟩), .int .i32 n] h fun v h' => v = vPr (propF (getF F Bk n)) ∧ Ext h h' := by
  refine enter func8 rfl ntmps8 results8 rfl rfl ?_
  refine x_seq ?_
  refine x_region ?_
  refine o1 rfl (s_al zeroValue28 rfl ?_)
  intro b4 hb4 n4
  have g4 : _ ≤ b4 := n4.ge (Ext.refl _)
  have ne4_K : b4 ≠ bK := n4.ne lK
  have nf_t_4 := t.nin n4
  have x0 := (n4.ext : Ext _ _)
  have lK := lK.lift (n4.ext)
  have t := t.lift (n4.ext)
  have l4 := n4.bl
  refine o_nil ?_
  refine x_seq ?_
  refine x_seq ?_
  refine x_region ?_
  refine r1 rfl (p_mv rfl) ?_
  refine r1 rfl (p_eqlp runUnderlying24 rfl rfl) ?_
  refine o_nil ?_
  refine x_cond_f rfl ?_
  refine x_skip ?_
  refine x_seq ?_
  refine x_region ?_
  refine r1 rfl (p_mv rfl) ?_
  refine r1 rfl (p_nc rfl) ?_
  refine r1 rfl (p_fld runUnderlying41 rfl sizeOf38 (by decide) rfl rfl) ?_
  refine r1 rfl (p_ld isAgg38 rfl (lK.get rfl)) ?_
  refine r1 rfl (p_mv rfl) ?_
  refine r1 rfl (p_conv runUnderlying21 runUnderlying3 rfl (wrap_i64 (by unfold B32 at hn; omega))) ?_
  refine o1 rfl (s_call call26 rfl (c26 B tb F ba bc Bk n _ t w hn) ?_)
  rintro v1 hh1 ⟨rfl, x1⟩
  have x0 := x0.tr (x1)
  have lK := lK.lift (x1)
  have l4 := l4.lift (x1)
  have t := t.lift (x1)
  refine o1 rfl (s_call call11 rfl (c11 _ _) ?_)
  rintro v2 hh2 ⟨rfl, x2⟩
  have x0 := x0.tr (x2)
  have lK := lK.lift (x2)
  have l4 := l4.lift (x2)
  have t := t.lift (x2)
  refine o0 (s_sta rfl rfl sizeOf28 rfl l4 rfl ?_)
  intro hh3 u3
  have x0 := x0.upd u3 g4
  have lK := u3.kp.bl (Ne.symm ne4_K) lK
  have l4 := u3.bl
  have t := t.updn u3 nf_t_4
  refine o_nil ?_
  refine x_ret (fin1 (ret_cell isAgg28 rfl (l4.gets rfl) sizeOf28) ?_)
  exact ⟨rfl, x0⟩
theorem c8n (n : Int) (h : Hp) : C prog 8 [.pointer none, .int .i32 n] h fun v h' => v = vPr ⟨0, false, 0, 0⟩ ∧ Ext h h' := by
  refine enter func8 rfl ntmps8 results8 rfl rfl ?_
  refine x_seq ?_
  refine x_region ?_
  refine o1 rfl (s_al zeroValue28 rfl ?_)
  intro b4 hb4 n4
  have g4 : _ ≤ b4 := n4.ge (Ext.refl _)
  have x0 := (n4.ext : Ext _ _)
  have l4 := n4.bl
  refine o_nil ?_
  refine x_seq ?_
  refine x_seq ?_
  refine x_region ?_
  refine r1 rfl (p_mv rfl) ?_
  refine r1 rfl (p_eqlp runUnderlying24 rfl rfl) ?_
  refine o_nil ?_
  refine x_cond_t rfl ?_
  refine x_seq ?_
  refine x_region ?_
  refine r1 rfl (p_bs runUnderlying28 zeroValue28 pl28 rfl) ?_
  show O _ _ _ _ ((_, .agg #[_, _, _, _]) :: _) _ _
  refine o0 (s_sta rfl rfl sizeOf28 rfl l4 rfl ?_)
  intro hh1 u1
  have x0 := x0.upd u1 g4
  have l4 := u1.bl
  refine o_nil ?_
  refine x_ret (fin1 (ret_cell isAgg28 rfl (l4.gets rfl) sizeOf28) ?_)
  exact ⟨rfl, x0⟩
end Go.Proofs
