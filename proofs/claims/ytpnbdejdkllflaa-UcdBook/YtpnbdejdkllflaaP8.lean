import Derived.Test.YtpnbdejdkllflaaP7
set_option linter.unusedVariables false
namespace Go.Proofs
open Go.Lx Try

theorem few_rgt {l : List Sp} (h : rgt (-1) l = true) : rgt (-1) (fewF l) = true := (few_spec h).1
def tms (T : List Sp) (k : Int) : List Sp := (fewF T).map (mulS k)
theorem tms_len (T : List Sp) (k : Int) : (tms T k).length ≤ T.length := by
  unfold tms; rw [List.length_map]; exact few_len T
theorem tms_spec {T : List Sp} {k : Int} (hr : rgt (-1) T = true) (hv : ∀ s ∈ T, 1 ≤ s.val * k ∧ s.val * k ≤ 65535) : rgt (-1) (tms T k) = true ∧ ∀ n, sfind (tms T k) n 0 = sfind T n 0 * k :=
  ⟨mulS_rgt k _ _ (few_rgt hr) (few_val (P := fun v => 1 ≤ v * k ∧ v * k ≤ 65535) hv), fun n => by unfold tms; rw [mulS_find, few_find hr]⟩
def S1 : List Sp := fewF T35
def S2 : List Sp := tms T37s 16
def S3 : List Sp := tms T38 32
def S4 : List Sp := tms T39 128
theorem s1_spec : rgt (-1) S1 = true ∧ ∀ n, sfind S1 n 0 = sfind T35 n 0 := ⟨few_rgt r35, few_find r35⟩
theorem s2_spec : rgt (-1) S2 = true ∧ ∀ n, sfind S2 n 0 = sfind T37s n 0 * 16 := tms_spec r37 fun s hs => by have := v37 s hs; omega
theorem s3_spec : rgt (-1) S3 = true ∧ ∀ n, sfind S3 n 0 = sfind T38 n 0 * 32 := tms_spec r38 fun s hs => by have := all_bd v38 s hs; omega
theorem s4_spec : rgt (-1) S4 = true ∧ ∀ n, sfind S4 n 0 = sfind T39 n 0 * 128 := tms_spec r39 fun s hs => by have := all_bd v39 s hs; omega
theorem t35le : T35.length ≤ 131 := by decide +kernel
theorem t37le : T37s.length ≤ 78 := by decide +kernel
theorem t38le : T38.length ≤ 50 := by decide +kernel
theorem t39le : T39.length ≤ 119 := by decide +kernel
theorem S2_eq : S2 = (fewF (T37.map p37)).map (mulS 16) := by unfold S2 tms T37s; rfl
theorem S3_eq : S3 = (fewF T38).map (mulS 32) := by unfold S3 tms; rfl
theorem S4_eq : S4 = (fewF T39).map (mulS 128) := by unfold S4 tms; rfl
theorem S1_eq : S1 = fewF T35 := by unfold S1; rfl
theorem rgt_len : ∀ {l : List Sp} {last : Int}, rgt last l = true → -1 ≤ last → (l.length : Int) ≤ max 0 (1114111 - last)
  | [], _, _, _ => by simp only [List.length_nil]; omega
  | s :: r, last, h, h0 => by
    rw [rgt_cons] at h
    have := rgt_len h.2 (by omega)
    simp only [List.length_cons]; omega
theorem pbd {s : Sp} (h : s ∈ T37s) : s.val = 1 := v37 s h
theorem S_len : S1.length + (S2.length + (S3.length + (S4.length + 0))) ≤ 400 := by
  have h1 : S1.length ≤ 131 := Nat.le_trans (few_len _) t35le
  have h2 : S2.length ≤ 78 := Nat.le_trans (tms_len _ _) t37le
  have h3 : S3.length ≤ 50 := Nat.le_trans (tms_len _ _) t38le
  have h4 : S4.length ≤ 119 := Nat.le_trans (tms_len _ _) t39le
  omega

theorem quad_rgt {a1 a2 a3 a4 : Option Addr} {c1 c2 c3 c4 : Nat} {l1 l2 l3 l4 : List Sp} (h1 : rgt (-1) l1 = true) (h2 : rgt (-1) l2 = true) (h3 : rgt (-1) l3 = true) (h4 : rgt (-1) l4 = true) (L : List Sl) (hL : L = [(a1, c1, l1), (a2, c2, l2), (a3, c3, l3), (a4, c4, l4)]) :
    ∀ x ∈ L, rgt (-1) x.2.2 = true := fun x hx => by
  subst hL
  simp only [List.mem_cons, List.not_mem_nil, or_false] at hx
  rcases hx with rfl | rfl | rfl | rfl
  · exact h1
  · exact h2
  · exact h3
  · exact h4
theorem quad_val (a1 a2 a3 a4 : Option Addr) (c1 c2 c3 c4 : Nat) (l1 l2 l3 l4 : List Sp) (n : Int) : valAt [(a1, c1, l1), (a2, c2, l2), (a3, c3, l3), (a4, c4, l4)] n = sfind l1 n 0 + (sfind l2 n 0 + (sfind l3 n 0 + (sfind l4 n 0 + 0))) := rfl
theorem quad_tot (a1 a2 a3 a4 : Option Addr) (c1 c2 c3 c4 : Nat) (l1 l2 l3 l4 : List Sp) : tot [(a1, c1, l1), (a2, c2, l2), (a3, c3, l3), (a4, c4, l4)] = l1.length + (l2.length + (l3.length + (l4.length + 0))) := rfl
theorem tv_bd (n : Int) : 0 ≤ tv n ∧ tv n ≤ 600 := by
  have h1 := b35 n; have h2 := b37 n; have h3 := b38 n; have h4 := b39 n
  unfold tv; omega
section
variable (a1 a2 a3 a4 : Option Addr) (c1 c2 c3 c4 : Nat)
def LL : List Sl := [(a1, c1, S1), (a2, c2, S2), (a3, c3, S3), (a4, c4, S4)]
theorem LL_rgt : ∀ x ∈ LL a1 a2 a3 a4 c1 c2 c3 c4, rgt (-1) x.2.2 = true := quad_rgt s1_spec.1 s2_spec.1 s3_spec.1 s4_spec.1 (LL a1 a2 a3 a4 c1 c2 c3 c4) rfl
theorem LL_val (n : Int) : valAt (LL a1 a2 a3 a4 c1 c2 c3 c4) n = tv n := by
  unfold LL
  rw [quad_val]
  rw [s1_spec.2, s2_spec.2, s3_spec.2, s4_spec.2]
  unfold tv; omega
theorem LL_tot : tot (LL a1 a2 a3 a4 c1 c2 c3 c4) ≤ 400 := by
  unfold LL
  rw [quad_tot]
  exact S_len
theorem LL_ne : edgs (LL a1 a2 a3 a4 c1 c2 c3 c4) ≠ [] := by
  intro h
  have h0 := LL_val a1 a2 a3 a4 c1 c2 c3 c4 0
  have h1 : valAt (LL a1 a2 a3 a4 c1 c2 c3 c4) 0 = 0 := valAt_zero _ fun x hx => by
    cases hx2 : x.2.2 with
    | nil => rfl
    | cons s r =>
      have := (edg_mem hx (s := s) (by rw [hx2]; exact List.mem_cons_self)).1
      rw [h] at this; cases this
  rw [h1] at h0
  revert h0
  decide +kernel
/-- All that the book is made of. -/
def SS : List Sp := sumF (LL a1 a2 a3 a4 c1 c2 c3 c4) (cutsOf (LL a1 a2 a3 a4 c1 c2 c3 c4)) ((cutsOf (LL a1 a2 a3 a4 c1 c2 c3 c4)).length - 1)
def MM : List Sp := mrg (SS a1 a2 a3 a4 c1 c2 c3 c4) (fewF sylAll)
theorem SS_spec : rgt (-1) (SS a1 a2 a3 a4 c1 c2 c3 c4) = true ∧ ∀ n, sfind (SS a1 a2 a3 a4 c1 c2 c3 c4) n 0 = tv n := by
  have h := sum_spec (LL_rgt a1 a2 a3 a4 c1 c2 c3 c4) (fun n => by rw [LL_val]; have := tv_bd n; omega) (LL_ne a1 a2 a3 a4 c1 c2 c3 c4)
  exact ⟨h.1, fun n => by rw [← LL_val a1 a2 a3 a4 c1 c2 c3 c4 n]; exact h.2 n⟩
theorem SS_val : ∀ s ∈ SS a1 a2 a3 a4 c1 c2 c3 c4, s.val ≤ 600 := fun s hs => by
  have h := SS_spec a1 a2 a3 a4 c1 c2 c3 c4
  have := find_lo h.1 s hs
  rw [h.2] at this
  have := tv_bd s.lo
  omega
theorem syl_rgt' : rgt (-1) (fewF sylAll) = true := few_rgt sylAll_spec.1
theorem syl_val' : ∀ s ∈ fewF sylAll, s.val ≤ 600 := fun s hs => by
  have := find_lo syl_rgt' s hs
  rw [few_find sylAll_spec.1, sylAll_spec.2] at this
  have := classF_bd s.lo
  omega
theorem MM_spec : rgt (-1) (MM a1 a2 a3 a4 c1 c2 c3 c4) = true ∧ ∀ n, sfind (MM a1 a2 a3 a4 c1 c2 c3 c4) n 0 = tv n + classF n := by
  have h := mrg_spec (SS_spec a1 a2 a3 a4 c1 c2 c3 c4).1 syl_rgt' (fun s hs => by have := SS_val a1 a2 a3 a4 c1 c2 c3 c4 s hs; omega) (fun s hs => by have := syl_val' s hs; omega)
  exact ⟨h.1, fun n => by rw [MM, h.2, (SS_spec a1 a2 a3 a4 c1 c2 c3 c4).2, few_find sylAll_spec.1, sylAll_spec.2]⟩
end
theorem rgt_bd {l : List Sp} (h : rgt (-1) l = true) (hv : ∀ s ∈ l, s.val ≤ 600) : ∀ s ∈ l, Bd s := fun s hs => by
  have := rgt_mem h s hs
  have := hv s hs
  unfold Bd; omega

/-- The table's answers. -/
theorem tab_spec {M : List Sp} (hr : rgt (-1) M = true) (hv : ∀ n, sfind M n 0 = tv n + classF n) :
    TW (bldF M 4352).1 (bldF M 4352).2.2.1 ∧ (20 ≤ (bldF M 4352).2.2.1.length ∧ (bldF M 4352).2.2.1.length ≤ 200) ∧ ∀ n, getF (bldF M 4352).1 (bldF M 4352).2.2.1 n = if n < 0 ∨ 1114111 < n then 0 else tv n + classF n := by
  have b := bld_spec hr 4352 (Nat.le_refl _)
  obtain ⟨⟨F, rest, Bk, Ev⟩, hst⟩ : ∃ st, bldF M 4352 = st := ⟨_, rfl⟩
  rw [hst] at b ⊢
  obtain ⟨fl, pg, src, nd, ev, rr, rf⟩ := b
  dsimp only at fl pg src nd ev rr rf ⊢
  have hup := few_blocks hv nd src
  have hlow := many_blocks hv (l := Bk) fun q hq => by
    obtain ⟨k, _, hk⟩ := pg q hq
    exact List.mem_of_getElem? hk
  have hF : ∀ q : Nat, q < 4352 → ∃ k : Nat, gt F (q : Int) = (k : Int) ∧ k < Bk.length ∧ gt Bk (k : Int) = page M ((q : Int) * 256) := fun q hq => by
    obtain ⟨k, h1, h2⟩ := pg q hq
    have hk := (List.getElem?_eq_some_iff.1 h2).1
    refine ⟨k, ?_, hk, ?_⟩
    · show F.getD q default = _
      rw [List.getD_eq_getElem?_getD, h1]; rfl
    · show Bk.getD k default = _
      rw [List.getD_eq_getElem?_getD, h2]; rfl
  refine ⟨⟨fun i h0 h1 => ?_, fun x hx v hvx => ?_⟩, ⟨hlow, by omega⟩, fun n => ?_⟩
  · obtain ⟨k, h2, h3, _⟩ := hF i.toNat (by omega)
    rw [show ((i.toNat : Nat) : Int) = i by omega] at h2
    rw [h2]; omega
  · obtain ⟨q, _, rfl⟩ := src x hx
    unfold page at hvx
    obtain ⟨j, _, rfl⟩ := List.mem_map.1 hvx
    rw [hv]
    have := tv_bd ((q : Int) * 256 + (j : Int))
    have := classF_bd ((q : Int) * 256 + (j : Int))
    omega
  · unfold getF
    by_cases hn : n < 0 ∨ 1114111 < n
    · rw [if_pos hn, if_pos (by omega)]
    · rw [if_neg hn, if_neg (by omega)]
      obtain ⟨k, h2, h3, h4⟩ := hF (n / 256).toNat (by omega)
      rw [show (((n / 256).toNat : Nat) : Int) = n / 256 by omega] at h2 h4
      rw [h2, h4]
      show (page M (n / 256 * 256)).getD (n % 256).toNat default = _
      unfold page
      rw [List.getD_eq_getElem?_getD, List.getElem?_map, List.getElem?_range (by omega)]
      show sfind M (n / 256 * 256 + (((n % 256).toNat : Nat) : Int)) 0 = _
      rw [show n / 256 * 256 + (((n % 256).toNat : Nat) : Int) = n by omega, hv]
end Go.Proofs
