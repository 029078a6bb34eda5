import Derived.Test.YtpnbdejdkllflaaP1
set_option linter.unusedVariables false
namespace Go.Proofs
open Go.Lx Try

theorem fold_spec : ∀ (l acc : List Sp) (b : Int), Good acc b → 0 ≤ b → rgt (b - 1) l = true → (∃ c, b ≤ c ∧ Good (l.foldl layF acc) c) ∧ ∀ n, sfind (l.foldl layF acc) n 0 = if n < b then sfind acc n 0 else sfind l n 0
  | [], acc, b, g, h0, _ => ⟨⟨b, Int.le_refl _, g⟩, fun n => by
      show sfind acc n 0 = _
      split
      · rfl
      · rw [sfind_high g.hi (by omega)]; rfl⟩
  | s :: r, acc, b, g, h0, h => by
    rw [rgt_cons] at h
    have g2 := g.layF (s := s) h0 (by omega) h.1.2.1 h.1.2.2.1 h.1.2.2.2.1 h.1.2.2.2.2
    have ih := fold_spec r (layF acc s) (s.hi + 1) g2.1 (by omega) (by rw [show s.hi + 1 - 1 = s.hi by omega]; exact h.2)
    refine ⟨?_, fun n => ?_⟩
    · obtain ⟨c, hc, gc⟩ := ih.1
      exact ⟨c, by omega, gc⟩
    · rw [List.foldl_cons, ih.2, sfind_cons, g2.2]
      by_cases h1 : n < b
      · rw [if_pos (by omega), if_neg (by omega), if_pos h1]
      · rw [if_neg h1]
        by_cases h2 : n ≤ s.hi
        · rw [if_pos (by omega), if_pos h2]
          by_cases h3 : s.lo ≤ n
          · rw [if_pos ⟨h3, h2⟩, if_pos h3]
          · rw [if_neg (by omega), if_neg h3, sfind_high g.hi (by omega)]
        · rw [if_neg (by omega), if_neg h2]
theorem few_spec {l : List Sp} (h : rgt (-1) l = true) : rgt (-1) (fewF l) = true ∧ ∀ n, sfind (fewF l) n 0 = if n < 0 then 0 else sfind l n 0 := by
  unfold fewF
  rw [if_pos h]
  have f := fold_spec l [] 0 ⟨rfl, fun s hs => by cases hs⟩ (Int.le_refl _) h
  obtain ⟨c, _, gc⟩ := f.1
  exact ⟨gc.r, f.2⟩
theorem few_find {l : List Sp} (h : rgt (-1) l = true) (n : Int) : sfind (fewF l) n 0 = sfind l n 0 := by
  rw [(few_spec h).2]
  split
  · exact (sfind_low h (by omega)).symm
  · rfl

theorem classF_bd (r : Int) : 0 ≤ classF r ∧ classF r ≤ 13 := by
  unfold classF
  repeat' split
  all_goals omega
theorem syl_rgt : ∀ (n : Nat) (r last : Int), last < r → r + n ≤ 1114112 → rgt last (syl r n) = true
  | 0, _, _, _, _ => rfl
  | n + 1, r, last, h, h2 => by
    rw [syl]
    have hb := classF_bd r
    split
    · exact syl_rgt n (r + 1) last (by omega) (by omega)
    · rw [List.singleton_append, rgt_cons]
      exact ⟨by dsimp only; omega, syl_rgt n (r + 1) r (by omega) (by omega)⟩
theorem syl_find : ∀ (n : Nat) (r x : Int), sfind (syl r n) x 0 = if r ≤ x ∧ x < r + n then classF x else 0
  | 0, r, x => by rw [if_neg (by omega)]; rfl
  | n + 1, r, x => by
    rw [syl]
    have ih := syl_find n (r + 1) x
    split
    · rename_i h0
      rw [List.nil_append, ih]
      by_cases hx : x = r
      · subst hx; rw [if_neg (by omega), if_pos (by omega), h0]
      · by_cases h1 : r + 1 ≤ x ∧ x < r + 1 + n
        · rw [if_pos h1, if_pos (by omega)]
        · rw [if_neg h1, if_neg (by omega)]
    · rw [List.singleton_append, sfind_cons, ih]
      dsimp only
      by_cases hx : x ≤ r
      · rw [if_pos hx]
        by_cases h1 : r ≤ x
        · have : x = r := by omega
          subst this; rw [if_pos h1, if_pos (by omega)]
        · rw [if_neg h1, if_neg (by omega)]
      · rw [if_neg hx]
        by_cases h1 : r + 1 ≤ x ∧ x < r + 1 + n
        · rw [if_pos h1, if_pos (by omega)]
        · rw [if_neg h1, if_neg (by omega)]
theorem syl_hi : ∀ (n : Nat) (r : Int), ∀ s ∈ syl r n, s.hi < r + n
  | 0, _, s, h => by cases h
  | n + 1, r, s, h => by
    rw [syl] at h
    rcases List.mem_append.1 h with h | h
    · split at h
      · cases h
      · simp only [List.mem_singleton] at h; subst h; dsimp only; omega
    · have := syl_hi n (r + 1) s h; omega
theorem class_out {x : Int} (h : ¬ (4352 ≤ x ∧ x < 4608) ∧ ¬ (43360 ≤ x ∧ x < 43389) ∧ ¬ (44032 ≤ x ∧ x < 55292)) : classF x = 0 := by
  unfold classF inF
  rw [if_neg (by simp; omega), if_neg (by simp; omega), if_neg (by simp; omega), if_pos (by simp; omega)]
theorem sylAll_spec : rgt (-1) sylAll = true ∧ ∀ x, sfind sylAll x 0 = classF x := by
  have r1 := syl_rgt 256 4352 (-1) (by decide) (by decide)
  have r2 := syl_rgt 29 43360 (43360 - 1) (by decide) (by decide)
  have r3 := syl_rgt 11260 44032 (44032 - 1) (by decide) (by decide)
  have h1 : ∀ s ∈ ([] ++ syl 4352 256), s.hi < 43360 := fun s hs => by
    have := syl_hi 256 4352 s hs; omega
  have e2 : rgt (-1) (([] ++ syl 4352 256) ++ syl 43360 29) = true := rgt_append (by simpa using r1) h1 (by decide) r2
  have h2 : ∀ s ∈ (([] ++ syl 4352 256) ++ syl 43360 29), s.hi < 44032 := fun s hs => by
    rcases List.mem_append.1 hs with hs | hs
    · have := h1 s hs; omega
    · have := syl_hi 29 43360 s hs; omega
  refine ⟨rgt_append e2 h2 (by decide) r3, fun x => ?_⟩
  unfold sylAll
  rw [sfind_append h2 r3, sfind_append h1 r2, List.nil_append, syl_find, syl_find, syl_find]
  by_cases hz : ¬ (4352 ≤ x ∧ x < 4608) ∧ ¬ (43360 ≤ x ∧ x < 43389) ∧ ¬ (44032 ≤ x ∧ x < 55292)
  · rw [class_out hz]; simp
  · split
    · split
      · rw [if_pos (by omega)]
      · rw [if_pos (by omega)]
    · rw [if_pos (by omega)]

/-! Values times a number. -/
theorem mulS_find (k : Int) (n : Int) : ∀ (l : List Sp), sfind (l.map (mulS k)) n 0 = sfind l n 0 * k
  | [] => by simp [sfind]
  | s :: r => by
    rw [List.map_cons, sfind_cons, sfind_cons, mulS_find k n r]
    show (if n ≤ s.hi then (if s.lo ≤ n then s.val * k else 0) else _) = _
    split
    · split
      · rfl
      · simp
    · rfl
theorem mulS_rgt (k : Int) : ∀ (l : List Sp) (last : Int), rgt last l = true → (∀ s ∈ l, 1 ≤ s.val * k ∧ s.val * k ≤ 65535) → rgt last (l.map (mulS k)) = true
  | [], _, _, _ => rfl
  | s :: r, last, h, hv => by
    rw [rgt_cons] at h
    rw [List.map_cons, rgt_cons]
    have := hv s List.mem_cons_self
    exact ⟨⟨h.1.1, h.1.2.1, h.1.2.2.1, this.1, this.2⟩, mulS_rgt k r s.hi h.2 fun y hy => hv y (List.mem_cons_of_mem _ hy)⟩
/-- No span of the fewest has a value that no span had. -/
theorem layF_val {P : Int → Prop} (l : List Sp) (s : Sp) (hl : ∀ t ∈ l, P t.val) (hs : P s.val) : ∀ t ∈ layF l s, P t.val := by
  intro t ht
  unfold layF at ht
  split at ht
  · rename_i u hu
    split at ht
    · rename_i hc
      rcases List.mem_or_eq_of_mem_set ht with h | rfl
      · exact hl t h
      · dsimp only; rw [hc.1]; exact hs
    · rcases List.mem_append.1 ht with h | h
      · exact hl t h
      · simp only [List.mem_singleton] at h; subst h; exact hs
  · rcases List.mem_append.1 ht with h | h
    · exact hl t h
    · simp only [List.mem_singleton] at h; subst h; exact hs
theorem fold_val {P : Int → Prop} : ∀ (l acc : List Sp), (∀ t ∈ acc, P t.val) → (∀ t ∈ l, P t.val) → ∀ t ∈ l.foldl layF acc, P t.val
  | [], _, ha, _ => ha
  | s :: r, acc, ha, hl => fold_val r (layF acc s) (layF_val acc s ha (hl s List.mem_cons_self)) fun y hy => hl y (List.mem_cons_of_mem _ hy)
theorem few_val {P : Int → Prop} {l : List Sp} (hl : ∀ t ∈ l, P t.val) : ∀ t ∈ fewF l, P t.val := by
  unfold fewF
  split
  · exact fold_val l [] (fun t ht => by cases ht) hl
  · intro t ht; cases ht
theorem p37_find (n : Int) : ∀ (l : List (Int × Int)), sfind (l.map p37) n 0 = if pfind l n then 1 else 0
  | [] => rfl
  | a :: r => by
    rw [List.map_cons, sfind_cons, p37_find n r]
    show (if n ≤ a.2 then (if a.1 ≤ n then 1 else 0) else _) = _
    unfold pfind
    by_cases h : n ≤ a.2
    · simp [h]
    · simp [h]
end Go.Proofs
