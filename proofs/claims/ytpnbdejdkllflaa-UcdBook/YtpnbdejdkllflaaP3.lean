import Derived.Test.YtpnbdejdkllflaaP2
set_option linter.unusedVariables false
namespace Go.Proofs
open Go.Lx Try

theorem dd_sorted (l : List Int) (hs : ∀ i j : Nat, i ≤ j → j < l.length → gt l (i : Int) ≤ gt l (j : Int)) : ∀ k, k ≤ l.length →
    (dd l k).Pairwise (· < ·) ∧ (∀ x ∈ dd l k, 0 < k ∧ x ≤ gt l ((k : Int) - 1)) ∧ ∀ i : Nat, i < k → gt l (i : Int) ∈ dd l k
  | 0, _ => ⟨List.Pairwise.nil, fun x hx => by simp [dd] at hx, fun i hi => by omega⟩
  | k + 1, hk => by
    obtain ⟨h1, h2, h3⟩ := dd_sorted l hs k (by omega)
    have ek : ((k + 1 : Nat) : Int) - 1 = (k : Int) := by omega
    rw [ek]
    unfold dd
    split
    · rename_i hc
      have e1 : (k : Int) - 1 = ((k - 1 : Nat) : Int) := by omega
      refine ⟨h1, fun x hx => ⟨by omega, ?_⟩, fun i hi => ?_⟩
      · rw [hc.2]; exact (h2 x hx).2
      · by_cases h : i < k
        · exact h3 i h
        · have : i = k := by omega
          subst this
          rw [hc.2, e1]; exact h3 (i - 1) (by omega)
    · rename_i hc
      have hlt : ∀ x ∈ dd l k, x < gt l (k : Int) := fun x hx => by
        have ⟨hk0, hx2⟩ := h2 x hx
        have e1 : (k : Int) - 1 = ((k - 1 : Nat) : Int) := by omega
        rw [e1] at hx2 hc
        have := hs (k - 1) k (by omega) (by omega)
        have hne : ¬ gt l (k : Int) = gt l ((k - 1 : Nat) : Int) := fun e => hc ⟨hk0, e⟩
        omega
      refine ⟨List.pairwise_append.2 ⟨h1, List.pairwise_singleton _ _, fun x hx y hy => ?_⟩, fun x hx => ⟨by omega, ?_⟩, fun i hi => ?_⟩
      · simp only [List.mem_singleton] at hy; subst hy; exact hlt x hx
      · rcases List.mem_append.1 hx with hx | hx
        · exact Int.le_of_lt (hlt x hx)
        · simp only [List.mem_singleton] at hx; omega
      · by_cases h : i < k
        · exact List.mem_append_left _ (h3 i h)
        · have : i = k := by omega
          subst this; simp
theorem srt_le (l : List Int) : ∀ i j : Nat, i ≤ j → j < (srt l).length → gt (srt l) (i : Int) ≤ gt (srt l) (j : Int) := by
  intro i j hij hj
  rw [gt_lt hj, gt_lt (by omega)]
  rcases Nat.eq_or_lt_of_le hij with rfl | h
  · exact Int.le_refl _
  · have hp := List.pairwise_mergeSort (le := fun x y : Int => decide (x ≤ y)) (fun a b c h1 h2 => by simp at *; omega) (fun a b => by simp; omega) l
    have := List.pairwise_iff_getElem.1 hp i j (by simpa [srt] using (show i < (srt l).length by omega)) (by simpa [srt] using hj) h
    simpa [srt] using this
theorem cuts_up (L : List Sl) : (cutsOf L).Pairwise (· < ·) := (dd_sorted _ (srt_le _) _ (by rw [srt_len]; omega)).1
theorem cuts_has {L : List Sl} {n : Int} (h : n ∈ edgs L) : n ∈ cutsOf L := by
  have h1 : n ∈ srt (edgs L) := by simpa [srt] using h
  obtain ⟨i, hi, e⟩ := List.mem_iff_getElem.1 h1
  have h2 := (dd_sorted (srt (edgs L)) (srt_le _) (edgs L).length (by rw [srt_len]; omega)).2.2 i (by rw [srt_len] at hi; exact hi)
  rw [gt_lt hi, e] at h2
  exact h2
theorem gap {C : List Int} (h : C.Pairwise (· < ·)) {y : Int} (hy : y ∈ C) {k : Nat} (hk : k + 1 < C.length) : y ≤ gt C (k : Int) ∨ gt C ((k : Int) + 1) ≤ y := by
  obtain ⟨j, hj, rfl⟩ := List.mem_iff_getElem.1 hy
  have e1 : (k : Int) + 1 = ((k + 1 : Nat) : Int) := by omega
  rw [e1, gt_lt hk, gt_lt (by omega)]
  have hp := List.pairwise_iff_getElem.1 h
  rcases Nat.lt_trichotomy j k with h1 | h1 | h1
  · exact .inl (Int.le_of_lt (hp j k hj (by omega) h1))
  · subst h1; exact .inl (Int.le_refl _)
  · rcases Nat.lt_or_ge (k + 1) j with h2 | h2
    · exact .inr (Int.le_of_lt (hp (k + 1) j hk hj h2))
    · have : j = k + 1 := by omega
      subst this; exact .inr (Int.le_refl _)
theorem first_le {C : List Int} (h : C.Pairwise (· < ·)) {y : Int} (hy : y ∈ C) : gt C 0 ≤ y := by
  obtain ⟨j, hj, rfl⟩ := List.mem_iff_getElem.1 hy
  have e : gt C 0 = C[0]'(by omega) := gt_lt (k := 0) (by omega)
  rw [e]
  rcases Nat.eq_zero_or_pos j with h1 | h1
  · subst h1; exact Int.le_refl _
  · exact Int.le_of_lt (List.pairwise_iff_getElem.1 h 0 j (by omega) hj h1)
theorem le_last {C : List Int} (h : C.Pairwise (· < ·)) {y : Int} (hy : y ∈ C) : y ≤ gt C ((C.length - 1 : Nat) : Int) := by
  obtain ⟨j, hj, rfl⟩ := List.mem_iff_getElem.1 hy
  rw [gt_lt (by omega)]
  rcases Nat.lt_or_ge j (C.length - 1) with h1 | h1
  · exact Int.le_of_lt (List.pairwise_iff_getElem.1 h j _ hj (by omega) h1)
  · have : j = C.length - 1 := by omega
    subst this; exact Int.le_refl _
theorem sfind_same {n c d : Int} : ∀ {l : List Sp}, (∀ s ∈ l, (s.lo ≤ n ↔ s.lo ≤ c) ∧ (n ≤ s.hi ↔ c ≤ s.hi)) → sfind l n d = sfind l c d
  | [], _ => rfl
  | s :: r, h => by
    have hs := h s List.mem_cons_self
    rw [sfind_cons, sfind_cons, sfind_same fun y hy => h y (List.mem_cons_of_mem _ hy)]
    simp only [hs.1, hs.2]
theorem valAt_congr {n c : Int} : ∀ (L : List Sl), (∀ x ∈ L, sfind x.2.2 n 0 = sfind x.2.2 c 0) → valAt L n = valAt L c
  | [], _ => rfl
  | x :: r, h => by
    have ih := valAt_congr r fun y hy => h y (List.mem_cons_of_mem _ hy)
    unfold valAt at ih ⊢
    rw [List.map_cons, List.map_cons, List.sum_cons, List.sum_cons, ih, h x List.mem_cons_self]
theorem valAt_zero {n : Int} : ∀ (L : List Sl), (∀ x ∈ L, sfind x.2.2 n 0 = 0) → valAt L n = 0
  | [], _ => rfl
  | x :: r, h => by
    have ih := valAt_zero r fun y hy => h y (List.mem_cons_of_mem _ hy)
    unfold valAt at ih ⊢
    rw [List.map_cons, List.sum_cons, ih, h x List.mem_cons_self]; rfl
theorem edg_mem {L : List Sl} {x : Sl} (hx : x ∈ L) {s : Sp} (hs : s ∈ x.2.2) : s.lo ∈ edgs L ∧ s.hi + 1 ∈ edgs L := by
  unfold edgs edg
  simp only [List.mem_flatMap]
  exact ⟨⟨x, hx, s, hs, by simp⟩, ⟨x, hx, s, hs, by simp⟩⟩
theorem sum_step {L : List Sl} (hr : ∀ x ∈ L, rgt (-1) x.2.2 = true) (hv : ∀ n, valAt L n ≤ 65535) {C : List Int} (hC : C = cutsOf L) (hne : 0 < C.length) : ∀ k : Nat, k < C.length →
    Good (sumF L C k) (gt C (k : Int)) ∧ ∀ n, sfind (sumF L C k) n 0 = if n < gt C (k : Int) then valAt L n else 0
  | 0, hk => by
    have hup := cuts_up L
    rw [← hC] at hup
    refine ⟨⟨rfl, fun s hs => by cases hs⟩, fun n => ?_⟩
    show (0 : Int) = _
    split
    · rename_i hn
      refine (valAt_zero L fun x hx => ?_).symm
      have hlow : ∀ s ∈ x.2.2, n < s.lo := fun s hs => by
        have h1 := cuts_has (edg_mem hx hs).1
        rw [← hC] at h1
        have h2 : gt C ((0 : Nat) : Int) ≤ s.lo := first_le hup h1
        omega
      have hm := rgt_mem (hr x hx)
      have : ∀ l : List Sp, (∀ s ∈ l, n < s.lo ∧ s.lo ≤ s.hi) → sfind l n 0 = 0 := by
        intro l
        cases l with
        | nil => intro _; rfl
        | cons s r => intro h; have := h s List.mem_cons_self; rw [sfind_cons, if_pos (by omega), if_neg (by omega)]
      exact this _ fun s hs => ⟨hlow s hs, (hm s hs).2.1⟩
    · rfl
  | k + 1, hk => by
    have hup := cuts_up L
    have ih := sum_step hr hv hC hne k (by omega)
    have hbd : ∀ n ∈ C, 0 ≤ n ∧ n ≤ 1114112 := fun n hn => by rw [hC] at hn; exact edgs_bd hr (cuts_mem hn)
    have b1 := hbd _ (gt_mem (l := C) (i := (k : Int)) (by omega) (by omega))
    have b2 := hbd _ (gt_mem (l := C) (i := (k : Int) + 1) (by omega) (by omega))
    rw [← hC] at hup
    have hlt : gt C (k : Int) < gt C ((k : Int) + 1) := by
      have e1 : (k : Int) + 1 = ((k + 1 : Nat) : Int) := by omega
      rw [e1, gt_lt hk, gt_lt (by omega)]
      exact List.pairwise_iff_getElem.1 hup k (k + 1) (by omega) hk (by omega)
    have hsame : ∀ n, gt C (k : Int) ≤ n → n < gt C ((k : Int) + 1) → valAt L n = valAt L (gt C (k : Int)) := fun n h1 h2 => by
      refine valAt_congr L fun x hx => sfind_same fun s hs => ?_
      have em := edg_mem hx hs
      have g1 := gap hup (by rw [hC]; exact cuts_has em.1) hk
      have g2 := gap hup (by rw [hC]; exact cuts_has em.2) hk
      omega
    have hnn := valAt_nn (n := gt C (k : Int)) L hr
    have ec : ((k + 1 : Nat) : Int) = (k : Int) + 1 := by omega
    rw [ec]
    unfold sumF
    split
    · rename_i hp
      have g := ih.1.layF (s := ⟨gt C (k : Int), gt C ((k : Int) + 1) - 1, valAt L (gt C (k : Int))⟩) b1.1 (Int.le_refl _) (by dsimp only; omega) (by dsimp only; omega) (by dsimp only; omega) (hv _)
      refine ⟨g.1.mono (by dsimp only; omega), fun n => ?_⟩
      rw [g.2, ih.2]
      dsimp only
      by_cases h1 : n < gt C (k : Int)
      · rw [if_neg (by omega), if_pos h1, if_pos (by omega)]
      · by_cases h2 : n < gt C ((k : Int) + 1)
        · rw [if_pos (by omega), if_pos h2, hsame n (by omega) h2]
        · rw [if_neg (by omega), if_neg h1, if_neg h2]
    · rename_i hp
      refine ⟨ih.1.mono (by omega), fun n => ?_⟩
      rw [ih.2]
      by_cases h1 : n < gt C (k : Int)
      · rw [if_pos h1, if_pos (by omega)]
      · rw [if_neg h1]
        split
        · rename_i h2
          rw [hsame n (by omega) h2]; omega
        · rfl
theorem sum_spec {L : List Sl} (hr : ∀ x ∈ L, rgt (-1) x.2.2 = true) (hv : ∀ n, valAt L n ≤ 65535) (hne : edgs L ≠ []) :
    rgt (-1) (sumF L (cutsOf L) ((cutsOf L).length - 1)) = true ∧ ∀ n, sfind (sumF L (cutsOf L) ((cutsOf L).length - 1)) n 0 = valAt L n := by
  obtain ⟨e0, he0⟩ := List.exists_mem_of_ne_nil _ hne
  have hpos : 0 < (cutsOf L).length := List.length_pos_of_mem (cuts_has he0)
  have h := sum_step hr hv rfl hpos ((cutsOf L).length - 1) (by omega)
  refine ⟨h.1.r, fun n => ?_⟩
  rw [h.2]
  split
  · rfl
  · rename_i hn
    refine (valAt_zero L fun x hx => ?_).symm
    refine sfind_high (b := gt (cutsOf L) (((cutsOf L).length - 1 : Nat) : Int)) (fun s hs => ?_) (by omega)
    have := le_last (cuts_up L) (cuts_has (edg_mem hx hs).2)
    omega
end Go.Proofs
