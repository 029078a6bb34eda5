import Derived.Test.YtpnbdejdkllflaaU13
import Derived.Test.YtpnbdejdkllflaaG5
set_option linter.unusedVariables false
namespace Go.Proofs
open Go.Lx Try

def valAt (L : List Sl) (n : Int) : Int := (L.map fun x => sfind x.2.2 n 0).sum
theorem sfind_nn {l : List Sp} {n : Int} (h : rgt (-1) l = true) : 0 ≤ sfind l n 0 := by
  have hm := rgt_mem h
  unfold sfind
  split
  · rename_i s hs
    have := hm s (List.mem_of_find?_eq_some hs)
    split
    · omega
    · omega
  · omega
theorem valAt_snoc (L : List Sl) (x : Sl) (n : Int) : valAt (L ++ [x]) n = valAt L n + sfind x.2.2 n 0 := by simp [valAt]
theorem valAt_nn {n : Int} : ∀ (L : List Sl), (∀ x ∈ L, rgt (-1) x.2.2 = true) → 0 ≤ valAt L n
  | [], _ => by simp [valAt]
  | x :: r, h => by
    have h1 := valAt_nn (n := n) r (fun y hy => h y (List.mem_cons_of_mem _ hy))
    have h2 := sfind_nn (n := n) (h x List.mem_cons_self)
    unfold valAt at h1 ⊢
    simp only [List.map_cons, List.sum_cons]
    omega
theorem valAt_le {n : Int} (L : List Sl) (i : Nat) (h : ∀ x ∈ L, rgt (-1) x.2.2 = true) : valAt (L.take i) n ≤ valAt L n := by
  have e : valAt L n = valAt (L.take i ++ L.drop i) n := by rw [List.take_append_drop]
  have h2 := valAt_nn (n := n) (L.drop i) (fun y hy => h y (List.mem_of_mem_drop hy))
  rw [e]
  unfold valAt at h2 ⊢
  rw [List.map_append, List.sum_append]
  omega
def sumF (L : List Sl) (C : List Int) : Nat → List Sp
  | 0 => []
  | i + 1 => if 0 < valAt L (gt C (i : Int)) then layF (sumF L C i) ⟨gt C (i : Int), gt C ((i : Int) + 1) - 1, valAt L (gt C (i : Int))⟩ else sumF L C i
theorem sumF_len (L : List Sl) (C : List Int) : ∀ i, (sumF L C i).length ≤ i
  | 0 => by simp [sumF]
  | i + 1 => by
    have := sumF_len L C i
    unfold sumF
    split
    · have h2 := layF_len (sumF L C i) ⟨gt C (i : Int), gt C ((i : Int) + 1) - 1, valAt L (gt C (i : Int))⟩
      omega
    · omega
theorem dd_mem (l : List Int) : ∀ k, k ≤ l.length → ∀ x ∈ dd l k, x ∈ l
  | 0, _, x, hx => by simp [dd] at hx
  | k + 1, hk, x, hx => by
    unfold dd at hx
    split at hx
    · exact dd_mem l k (by omega) x hx
    · rcases List.mem_append.1 hx with h | h
      · exact dd_mem l k (by omega) x h
      · simp only [List.mem_singleton] at h
        subst h
        rw [gt_lt (by omega)]
        exact List.getElem_mem _
def cutsOf (L : List Sl) : List Int := dd (srt (edgs L)) (edgs L).length
theorem cuts_mem {L : List Sl} {n : Int} (h : n ∈ cutsOf L) : n ∈ edgs L := by
  have := dd_mem _ _ (by rw [srt_len]; omega) n h
  simpa [srt] using this
theorem edgs_bd {L : List Sl} (hr : ∀ x ∈ L, rgt (-1) x.2.2 = true) {n : Int} (h : n ∈ edgs L) : 0 ≤ n ∧ n ≤ 1114112 := by
  unfold edgs edg at h
  simp only [List.mem_flatMap] at h
  obtain ⟨x, hx, s, hs, hn⟩ := h
  have := rgt_mem (hr x hx) s hs
  simp at hn
  omega
theorem gt_mem {l : List Int} {i : Int} (h0 : 0 ≤ i) (h1 : i < l.length) : gt l i ∈ l := by
  have := gt_get h0 h1
  exact List.mem_of_getElem? this
theorem up_rgt {l : List Sp} {last : Int} (h : rgt last l = true) : Up l := up_of (rgt_up h)

theorem c12 (a : Option Addr) (cap : Nat) (L : List Sl) (h : Hp) (hL : Rd 1 eS h a L) (hS : ∀ x ∈ L, Rd 3 eSp h x.1 x.2.2) (hr : ∀ x ∈ L, rgt (-1) x.2.2 = true) (hne : edgs L ≠ []) (hlen : L.length ≤ 1000) (htot : tot L ≤ 1000000)
    (hv : ∀ n, valAt L n ≤ 65535) :
    C prog 12 [.slice a L.length cap] h fun v h' => ∃ a' cap', v = .slice a' (sumF L (cutsOf L) ((cutsOf L).length - 1)).length cap' ∧ Ow h.size 52 3 eSp h' a' cap' (sumF L (cutsOf L) ((cutsOf L).length - 1)) ∧ Ext h h' := by
  refine enter func12 rfl ntmps12 results12 rfl rfl ?_
  refine x_seq ?_
  refine x_region ?_
  refine r1 rfl (p_as rfl) ?_
  refine o_nil ?_
  refine x_seq ?_
  refine x_seq ?_
  refine x_region ?_
  refine r1 rfl (p_mv rfl) ?_
  refine r1 rfl (p_len runUnderlying45 rfl) ?_
  refine r1 rfl (p_mv rfl) ?_
  refine o_nil ?_
  refine x_block ?_
  refine x_loope (σ := Nat) (fun i E0 => (13, .int .i64 (i : Int)) :: E0) [(0, _), (11, _), (12, _)] (fun i h' => Ext h h' ∧ i ≤ L.length) (fun i => L.length - i) (0) ⟨rfl, rfl, rfl, rfl, trivial⟩ ?_ ?_
  · exact ⟨Ext.refl _, by omega⟩
  rintro i h' ⟨x0, hi⟩
  show X _ _ _ ((13, .int .i64 (i : Int)) :: _) _ _
  have hl := hL.lift x0
  refine x_seq ?_
  refine x_region ?_
  refine r1 rfl (p_lss rfl rfl) ?_
  refine o_nil ?_
  refine x_seq ?_
  refine x_cond rfl (fun hc => ?_) (fun hc => ?_)
  · skip
    have hlt : i < L.length := by have := of_decide_eq_true hc; omega
    have hx : L[i]? = some L[i] := by simp [hlt]
    have hmi : L[i] ∈ L := List.getElem_mem hlt
    have hs := (hS _ hmi).lift x0
    have hri := hr _ hmi
    have htk := tot_take L i hlt
    generalize L[i] = x at *
    refine x_skip ?_
    refine x_seq ?_
    refine x_block ?_
    refine x_seq ?_
    refine x_region ?_
    refine r1 rfl (p_idx runUnderlying45 sizeOf33 rfl rfl (by omega) (hl.is' hlt)) ?_
    refine r1 rfl (p_ld isAgg33 rfl (hl.cel _ _ hx 0 _ rfl)) ?_
    refine r1 rfl (p_as rfl) ?_
    refine o_nil ?_
    refine x_seq ?_
    refine x_region ?_
    refine r1 rfl (p_mv rfl) ?_
    refine o1 rfl (s_call call31 rfl (c31 _ _ _ _ hs (by omega)) ?_)
    rintro v1 hh1 ⟨rfl, x1⟩
    have x0 := x0.tr (x1)
    refine r1 rfl (p_not rfl) ?_
    refine o_nil ?_
    refine x_cond_f (by rw [hri]; rfl) ?_
    refine x_skip ?_
    refine x_region ?_
    refine r1 rfl (p_add64 rfl rfl (by omega)) ?_
    refine r1 rfl (p_mv rfl) ?_
    refine o_nil ?_
    refine ⟨i + 1, ⟨rfl, rfl, rfl, rfl, trivial⟩, ?_, ?_⟩
    · exact ⟨x0, by omega⟩
    · omega
  · skip
    have hsz := Kp.size x0
    refine x_exit ?_
    refine x_seq ?_
    refine x_region ?_
    refine r1 rfl (p_as rfl) ?_
    refine o_nil ?_
    refine x_seq ?_
    refine x_region ?_
    refine r1 rfl (p_mv rfl) ?_
    refine o1 rfl (s_call call32 rfl (c32 _ _ L _ hl (fun x hx => (hS x hx).lift x0) hr hne hlen htot) ?_)
    rintro v2 hh2 ⟨aC, cC, rfl, wC, x2⟩
    have x0 := x0.tr (x2)
    refine r1 rfl (p_as rfl) ?_
    refine o_nil ?_
    refine x_seq ?_
    refine x_seq ?_
    have hCl : (dd (srt (edgs L)) (edgs L).length).length ≤ 2000000 := by
      have h1 := dd_len (srt (edgs L)) (edgs L).length
      have h2 := edgs_len L
      omega
    have hCb : ∀ n ∈ cutsOf L, 0 ≤ n ∧ n ≤ 1114112 := fun n hn => edgs_bd hr (cuts_mem hn)
    have hCd : dd (srt (edgs L)) (edgs L).length = cutsOf L := rfl
    rw [hCd] at hCl wC ⊢
    have wC := wC.mono hsz
    generalize cutsOf L = Cu at *
    refine x_region ?_
    refine r1 rfl (p_as rfl) ?_
    refine o_nil ?_
    refine x_block ?_
    refine x_loope (σ := Nat × Option Addr × Nat) (fun s E0 => match s with | (i, ao, co) => (5, .slice ao (sumF L Cu i).length co) :: (7, .int .i64 (i : Int)) :: E0) [(0, _), (6, _)] (fun s h' => match s with | (i, ao, co) => Ext h h' ∧ i ≤ Cu.length - 1 ∧ Ow h.size 52 3 eSp h' ao co (sumF L Cu i) ∧ Ow h.size 3 1 e1 h' aC cC Cu) (fun s => match s with | (i, ao, co) => Cu.length - i) ((0, none, 0)) ⟨rfl, rfl, rfl, rfl, trivial⟩ ?_ ?_
    · exact ⟨x0, by omega, Ow.nil, wC⟩
    rintro ⟨i, ao, co⟩ h' ⟨x0, hi, ow, wC⟩
    show X _ _ _ ((5, .slice ao (sumF L Cu i).length co) :: (7, .int .i64 (i : Int)) :: _) _ _
    refine x_seq ?_
    refine x_seq ?_
    refine x_region ?_
    refine r1 rfl (p_mv rfl) ?_
    refine r1 rfl (p_add64 rfl rfl (by omega)) ?_
    refine r1 rfl (p_mv rfl) ?_
    refine r1 rfl (p_len runUnderlying47 rfl) ?_
    refine r1 rfl (p_lss rfl rfl) ?_
    refine o_nil ?_
    refine x_cond rfl (fun hd => ?_) (fun hd => ?_)
    · skip
      have hlt : i + 1 < Cu.length := by have := of_decide_eq_true hd; omega
      have hb1 := hCb _ (gt_mem (l := Cu) (i := (i : Int)) (by omega) (by omega))
      have hb2 := hCb _ (gt_mem (l := Cu) (i := (i : Int) + 1) (by omega) (by omega))
      refine x_skip ?_
      refine x_seq ?_
      refine x_block ?_
      refine x_seq ?_
      refine x_region ?_
      refine r1 rfl (p_as rfl) ?_
      refine o_nil ?_
      refine x_seq ?_
      refine x_seq ?_
      refine x_region ?_
      refine r1 rfl (p_mv rfl) ?_
      refine r1 rfl (p_len runUnderlying45 rfl) ?_
      refine r1 rfl (p_mv rfl) ?_
      refine o_nil ?_
      refine x_block ?_
      refine x_loope (σ := Nat) (fun j E0 => (8, .int .i64 (valAt (L.take j) (gt Cu (i : Int)))) :: (32, .int .i64 (j : Int)) :: E0) [(0, _), (5, _), (6, _), (7, _), (30, _), (31, _)] (fun j h' => Ext h h' ∧ j ≤ L.length ∧ Ow h.size 52 3 eSp h' ao co (sumF L Cu i) ∧ Ow h.size 3 1 e1 h' aC cC Cu) (fun j => L.length - j) (0) ⟨rfl, rfl, rfl, rfl, rfl, rfl, rfl, rfl, trivial⟩ ?_ ?_
      · exact ⟨x0, by omega, ow, wC⟩
      rintro j h' ⟨x0, hj, ow, wC⟩
      show X _ _ _ ((8, .int .i64 (valAt (L.take j) (gt Cu (i : Int)))) :: (32, .int .i64 (j : Int)) :: _) _ _
      have hl := hL.lift x0
      refine x_seq ?_
      refine x_region ?_
      refine r1 rfl (p_lss rfl rfl) ?_
      refine o_nil ?_
      refine x_seq ?_
      refine x_cond rfl (fun he => ?_) (fun he => ?_)
      · skip
        have hjl : j < L.length := by have := of_decide_eq_true he; omega
        have hx : L[j]? = some L[j] := by simp [hjl]
        have hmi : L[j] ∈ L := List.getElem_mem hjl
        have hs := (hS _ hmi).lift x0
        have hri := hr _ hmi
        have htk := tot_take L j hjl
        have hva := valAt_snoc (L.take j) L[j] (gt Cu (i : Int))
        rw [← take_snoc L j hjl] at hva
        have hv1 := valAt_le (n := gt Cu (i : Int)) L (j + 1) hr
        have hv2 := valAt_nn (n := gt Cu (i : Int)) (L.take j) (fun y hy => hr y (List.mem_of_mem_take hy))
        have hv3 := hv (gt Cu (i : Int))
        have hv4 := sfind_nn (n := gt Cu (i : Int)) hri
        generalize L[j] = x at *
        have hrC := wC.rd lene1
        refine x_skip ?_
        refine x_seq ?_
        refine x_block ?_
        refine x_seq ?_
        refine x_region ?_
        refine r1 rfl (p_idx runUnderlying45 sizeOf33 rfl rfl (by omega) (hl.is' hjl)) ?_
        refine r1 rfl (p_ld isAgg33 rfl (hl.cel _ _ hx 0 _ rfl)) ?_
        refine r1 rfl (p_as rfl) ?_
        refine o_nil ?_
        refine x_seq ?_
        refine x_region ?_
        refine r1 rfl (p_mv rfl) ?_
        refine r1 rfl (p_mv rfl) ?_
        refine r1 rfl (p_mv rfl) ?_
        refine r1 rfl (p_mv rfl) ?_
        refine r1 rfl (p_idx runUnderlying47 sizeOf3 rfl rfl (by omega) (hrC.isi (i := (i : Int)) (by omega) (by omega))) ?_
        refine r1 rfl (p_ld isAgg3 rfl (hrC.ati (i := (i : Int)) (by omega) (by omega) (j := 0) rfl)) ?_
        refine o1 rfl (s_call call33 rfl (c33 _ _ x.2.2 (gt Cu (i : Int)) _ hs (up_rgt hri) (by omega)) ?_)
        rintro v3 hh3 ⟨rfl, x3⟩
        have x0 := x0.tr (x3)
        have ow := ow.lift (x3)
        have wC := wC.lift (x3)
        refine r1 rfl (p_add64 rfl rfl (by omega)) ?_
        refine r1 rfl (p_as rfl) ?_
        refine o_nil ?_
        refine x_seq ?_
        refine x_region ?_
        refine r1 rfl (p_mv rfl) ?_
        refine r1 rfl (p_gtr rfl rfl) ?_
        refine o_nil ?_
        rw [← hva]
        refine x_cond_f (congrArg (fun b => some (Value.bool b)) (decide_eq_false (by omega))) ?_
        refine x_skip ?_
        refine x_region ?_
        refine r1 rfl (p_add64 rfl rfl (by omega)) ?_
        refine r1 rfl (p_mv rfl) ?_
        refine o_nil ?_
        refine ⟨j + 1, ⟨rfl, rfl, rfl, rfl, rfl, rfl, rfl, rfl, trivial⟩, ?_, ?_⟩
        · exact ⟨x0, by omega, ow, wC⟩
        · omega
      · skip
        have hjl : j = L.length := by have := of_decide_eq_false he; omega
        subst hjl
        rw [List.take_length] at *
        refine x_exit ?_
        refine x_seq ?_
        refine x_region ?_
        refine r1 rfl (p_mv rfl) ?_
        refine r1 rfl (p_gtr rfl rfl) ?_
        refine o_nil ?_
        refine x_cond rfl (fun hp => ?_) (fun hp => ?_)
        · skip
          have hp' : 0 < valAt L (gt Cu (i : Int)) := by have := of_decide_eq_true hp; omega
          have hsf : sumF L Cu (i + 1) = layF (sumF L Cu i) ⟨gt Cu (i : Int), gt Cu ((i : Int) + 1) - 1, valAt L (gt Cu (i : Int))⟩ := by rw [sumF, if_pos hp']
          have hsl := sumF_len L Cu i
          have hrC := wC.rd lene1
          refine x_regs 13 (by kernel_rfl) (by kernel_rfl) ?_
          refine t1 rfl (p_mv rfl) ?_
          refine t1 rfl (p_mv rfl) ?_
          refine t1 rfl (p_mv rfl) ?_
          refine t1 rfl (p_idx runUnderlying47 sizeOf3 rfl rfl (by omega) (hrC.isi (i := (i : Int)) (by omega) (by omega))) ?_
          refine t1 rfl (p_ld isAgg3 rfl (hrC.ati (i := (i : Int)) (by omega) (by omega) (j := 0) rfl)) ?_
          refine t1 rfl (p_mv rfl) ?_
          refine t1 rfl (p_mv rfl) ?_
          refine t1 rfl (p_add64 rfl rfl (by omega)) ?_
          refine t1 rfl (p_idx runUnderlying47 sizeOf3 rfl rfl (by omega) (hrC.isi (i := (i : Int) + 1) (by omega) (by omega))) ?_
          refine t1 rfl (p_ld isAgg3 rfl (hrC.ati (i := (i : Int) + 1) (by omega) (by omega) (j := 0) rfl)) ?_
          refine t1 rfl (p_sub64 rfl rfl (by omega)) ?_
          refine t1 rfl (p_mv rfl) ?_
          refine t1 rfl (p_bs runUnderlying52 zeroValue52 pl52 rfl) ?_
          show T _ _ _ _ ((_, .agg #[_, _, _]) :: _) _ _
          refine t_nil ?_
          refine o1 rfl (s_call call34 rfl (c34 h.size _ _ _ ⟨gt Cu (i : Int), gt Cu ((i : Int) + 1) - 1, valAt L (gt Cu (i : Int))⟩ _ ow (Kp.size x0) (by omega) (by constructor <;> (dsimp only; omega))) ?_)
          rintro v4 hh4 ⟨aA, cA, rfl, wA, kA⟩
          have x0 := ow.kpAt x0 kA
          have wC := wC.keepT ow kA (by decide)
          refine r1 rfl (p_as rfl) ?_
          refine o_nil ?_
          refine x_region ?_
          refine r1 rfl (p_mv rfl) ?_
          refine r1 rfl (p_add64 rfl rfl (by omega)) ?_
          refine r1 rfl (p_as rfl) ?_
          refine o_nil ?_
          rw [← hsf] at wA ⊢
          refine ⟨(i + 1, aA, cA), ⟨rfl, rfl, rfl, rfl, trivial⟩, ?_, ?_⟩
          · exact ⟨x0, by omega, wA, wC⟩
          · dsimp only; omega
        · skip
          have hp' : ¬ 0 < valAt L (gt Cu (i : Int)) := of_decide_eq_false hp
          have hsf : sumF L Cu (i + 1) = sumF L Cu i := by rw [sumF, if_neg hp']
          refine x_skip ?_
          refine x_region ?_
          refine r1 rfl (p_mv rfl) ?_
          refine r1 rfl (p_add64 rfl rfl (by omega)) ?_
          refine r1 rfl (p_as rfl) ?_
          refine o_nil ?_
          rw [← hsf] at ow ⊢
          refine ⟨(i + 1, ao, co), ⟨rfl, rfl, rfl, rfl, trivial⟩, ?_, ?_⟩
          · exact ⟨x0, by omega, ow, wC⟩
          · dsimp only; omega
    · skip
      have hlt : i = Cu.length - 1 := by have := of_decide_eq_false hd; omega
      subst hlt
      refine x_exit ?_
      refine x_seq ?_
      refine x_region ?_
      refine r1 rfl (p_mv rfl) ?_
      refine r1 rfl (p_as rfl) ?_
      refine o_nil ?_
      refine x_ret (fin1 rfl ?_)
      exact ⟨ao, co, rfl, ow, x0⟩
end Go.Proofs
