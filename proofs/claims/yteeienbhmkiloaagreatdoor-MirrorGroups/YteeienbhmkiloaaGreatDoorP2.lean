import Derived.Test.YteeienbhmkiloaaGreatDoorW11
set_option linter.unusedSimpArgs false
set_option linter.unusedVariables false
namespace Go.Proofs
open Go.Lx

theorem stepN_le {s : List Int} (hs : s ≠ []) : stepN s ≤ s.length ∧ 1 ≤ stepN s := by
  have hl := List.length_pos_iff.2 hs
  have hr := reach_le s hs
  unfold stepN; omega
/-- What is told of the first part of some bytes behind which others are. -/
theorem feed_part {s : List Int} (hb : ∀ x ∈ s, BU8 x) (hs : s ≠ []) (ht : s.drop (stepN s) ≠ []) (at_ : Int) :
    feedF [] s = ((partF s at_).r :: (feedF [] (s.drop (stepN s))).1, (feedF [] (s.drop (stepN s))).2) := by
  have hl := List.length_pos_iff.2 hs
  have hr := reach_le s hs
  have hn := stepN_le hs
  have hlt : stepN s < s.length := by
    have := List.length_pos_iff.2 ht
    rw [List.length_drop] at this; omega
  by_cases h0 : reachF s = 0
  · have e1 : stepN s = 1 := by unfold stepN; rw [h0]; rfl
    have er : (partF s at_).r = 65533 := by unfold partF; rw [if_pos h0]
    have eb := begins_take hb (j := 1) (Nat.le_refl _) (by omega)
    rw [if_neg (by omega)] at eb
    rw [er, e1]
    match s, hs, eb with
    | y :: t, _, eb =>
      simp only [List.take_succ_cons, List.take_zero] at eb
      simp only [List.drop_succ_cons, List.drop_zero, feedF, stepF_nil]
      unfold step0
      rw [if_neg (by omega), if_neg (by omega)]
      rfl
  · have e1 : stepN s = reachF s := by unfold stepN; omega
    rw [e1] at ht hlt ⊢
    have hsplit : s = s.take (reachF s) ++ s.drop (reachF s) := (List.take_append_drop _ _).symm
    by_cases h2 : (reachF s : Int) < leadF (gt s 0)
    · have er : (partF s at_).r = 65533 := by unfold partF; rw [if_neg h0, if_pos h2]
      have fp := feed_pre hb (reachF s) (Nat.le_refl _) hr.1 h2
      rw [er]
      conv => lhs; rw [hsplit]
      rw [feedF_append, fp]
      have eb := begins_take hb (j := reachF s + 1) (by omega) (by omega)
      rw [if_neg (by omega), take_snoc (by omega)] at eb
      have hd : s.drop (reachF s) = gt s (reachF s : Int) :: s.drop (reachF s + 1) := by
        rw [gt_lt (by omega)]; exact List.drop_eq_getElem_cons hlt
      rw [hd]
      simp only [feedF, stepF_nil]
      have ne : ¬ s.take (reachF s) = [] := by
        intro e; have := congrArg List.length e
        rw [List.length_take, List.length_nil] at this; omega
      have es : stepF (s.take (reachF s)) (gt s (reachF s : Int)) = (65533 :: (step0 (gt s (reachF s : Int))).1, (step0 (gt s (reachF s : Int))).2) := by
        unfold stepF
        rw [if_neg (by rw [eb]; omega), if_neg (by rw [eb]; omega), if_neg ne]
      rw [es]
      rfl
    · have hw : (reachF s : Int) = leadF (gt s 0) := by omega
      have er : (partF s at_).r = wholeF (s.take (reachF s)) := by unfold partF; rw [if_neg h0, if_neg h2]
      have fp := feed_whole hb (by omega) (Nat.le_refl _) hr.1 hw
      rw [er]
      conv => lhs; rw [hsplit]
      rw [feedF_append, fp]
      rfl
/-- All parts but the last one are told, whatever the last one is. -/
theorem feed_last {s : List Int} (hb : ∀ x ∈ s, BU8 x) (hs : s ≠ []) (at_ : Int) :
    ∃ i : Nat, i < s.length ∧ gt (partsW s at_) ((partsW s at_).length - 1) = partF (s.drop i) (at_ + i) ∧ i + stepN (s.drop i) = s.length ∧
      feedF [] s = (((partsW s at_).take ((partsW s at_).length - 1)).map GotT.r ++ (feedF [] (s.drop i)).1, (feedF [] (s.drop i)).2) := by
  have hl := List.length_pos_iff.2 hs
  have hst := stepN_le hs
  by_cases he : s.drop (stepN s) = []
  · have h1 : stepN s = s.length := by
      have := congrArg List.length he
      rw [List.length_drop, List.length_nil] at this; omega
    have e : partsW s at_ = [partF s at_] := by rw [partsW, dif_neg hs, partsW, dif_pos he]
    refine ⟨0, hl, ?_, by simpa using h1, ?_⟩
    · rw [e]; simp [gt]
    · rw [e]; simp
  · obtain ⟨i, h1, h2, h3, h4⟩ := feed_last (s := s.drop (stepN s)) (fun x hx => hb x (List.mem_of_mem_drop hx)) he (at_ + stepN s)
    rw [List.length_drop] at h1 h3
    have hp : partsW s at_ = partF s at_ :: partsW (s.drop (stepN s)) (at_ + stepN s) := by rw [partsW, dif_neg hs]
    have hpl := List.length_pos_iff.2 (parts_ne (at_ := at_ + stepN s) he)
    refine ⟨stepN s + i, by omega, ?_, by rw [← List.drop_drop]; omega, ?_⟩
    · rw [hp, gt_last_cons (g' := default) (parts_ne he), h2, List.drop_drop]
      congr 1
      omega
    · rw [feed_part hb hs he at_, h4, ← List.drop_drop, hp, List.length_cons]
      have : (partsW (s.drop (stepN s)) (at_ + stepN s)).length + 1 - 1 = (partsW (s.drop (stepN s)) (at_ + stepN s)).length - 1 + 1 := by omega
      rw [this, List.take_succ_cons, List.map_cons, List.cons_append]
  termination_by s.length
  decreasing_by
  rw [List.length_drop]; omega
/-- What is told of a row of bytes that is one part. -/
theorem feed_one {u : List Int} (hb : ∀ x ∈ u, BU8 x) (hu : u ≠ []) (h1 : stepN u = u.length) (at_ : Int) :
    feedF [] u = if (partF u at_).bad = false ∨ reachF u = 0 ∨ leadF (gt u 0) ≤ reachF u then ([(partF u at_).r], []) else ([], u) := by
  have hl := List.length_pos_iff.2 hu
  have hr := reach_le u hu
  by_cases h0 : reachF u = 0
  · have e1 : u.length = 1 := by rw [← h1]; unfold stepN; rw [h0]; rfl
    have er : (partF u at_).r = 65533 := by unfold partF; rw [if_pos h0]
    have eb := begins_take hb (j := 1) (Nat.le_refl _) (by omega)
    rw [if_neg (by omega)] at eb
    rw [if_pos (.inr (.inl h0)), er]
    match u, e1, eb with
    | [y], _, eb =>
      simp only [List.take_succ_cons, List.take_zero] at eb
      simp only [feedF, stepF_nil]
      unfold step0
      rw [if_neg (by omega), if_neg (by omega)]
      rfl
  · have e1 : reachF u = u.length := by unfold stepN at h1; omega
    by_cases h2 : (reachF u : Int) < leadF (gt u 0)
    · have eb : (partF u at_).bad = true := by unfold partF; rw [if_neg h0, if_pos h2]
      rw [if_neg (by rw [eb]; simp [h0]; omega)]
      have fp := feed_pre hb (reachF u) (Nat.le_refl _) hr.1 h2
      rwa [e1, List.take_length] at fp
    · have hw : (reachF u : Int) = leadF (gt u 0) := by omega
      have er : (partF u at_).r = wholeF u := by unfold partF; rw [if_neg h0, if_neg h2, e1, List.take_length]
      rw [if_pos (.inr (.inr (by omega))), er]
      have fp := feed_whole hb (by omega) (Nat.le_refl _) hr.1 hw
      rwa [e1, List.take_length] at fp

theorem take_last {α : Type} [Inhabited α] {l : List α} (h : l ≠ []) : l.take (l.length - 1) ++ [gt l (l.length - 1 : Int)] = l := by
  have hl := List.length_pos_iff.2 h
  have e : gt l (l.length - 1 : Int) = l[l.length - 1] := by
    rw [show ((l.length : Int) - 1) = ((l.length - 1 : Nat) : Int) by omega, gt_lt (by omega)]
  rw [e, ← List.take_succ_eq_append_getElem, show l.length - 1 + 1 = l.length by omega, List.take_length]
theorem drop_last {α : Type} [Inhabited α] {l : List α} (h : l ≠ []) : l.drop (l.length - 1) = [gt l (l.length - 1 : Int)] := by
  have hl := List.length_pos_iff.2 h
  rw [List.drop_eq_getElem_cons (by omega), show ((l.length : Int) - 1) = ((l.length - 1 : Nat) : Int) by omega, gt_lt (by omega), List.drop_of_length_le (by omega)]
/-- What is told, and what is held. -/
theorem told_feed {s : List Int} (hb : ∀ x ∈ s, BU8 x) : (told s).map GotT.r = (feedF [] s).1 ∧ (0 < tailF s ↔ 0 < heldF s) ∧
    (partsW s 0).drop (told s).length = (if 0 < tailF s then [gt (partsW s 0) ((partsW s 0).length - 1)] else []) ∧ (0 < tailF s → (gt (partsW s 0) ((partsW s 0).length - 1 : Int)).r = 65533) := by
  by_cases hs : s = []
  · subst hs
    have e : partsW [] 0 = [] := by rw [partsW, dif_pos rfl]
    have et : tailF [] = 0 := by unfold tailF; rw [if_pos e]
    have eh : heldF [] = 0 := rfl
    unfold told
    rw [et, eh, e]
    simp [feedF]
  · obtain ⟨i, hi, hg, hst, hf⟩ := feed_last hb hs 0
    have hp := parts_ne (at_ := 0) hs
    have hpl := List.length_pos_iff.2 hp
    have hune : s.drop i ≠ [] := by
      intro e; have := congrArg List.length e
      rw [List.length_drop, List.length_nil] at this; omega
    have hub : ∀ x ∈ s.drop i, BU8 x := fun x hx => hb x (List.mem_of_mem_drop hx)
    have h1 : stepN (s.drop i) = (s.drop i).length := by rw [List.length_drop]; omega
    have fo := feed_one hub hune h1 (0 + i)
    have hat : (gt (partsW s 0) ((partsW s 0).length - 1 : Int)).at_.toNat = i := by
      rw [hg]; unfold partF; split
      · simp
      · split <;> simp
    have htail : tailF s = if (partF (s.drop i) (0 + i)).bad = false ∨ reachF (s.drop i) = 0 ∨ leadF (gt (s.drop i) 0) ≤ reachF (s.drop i) then 0 else (stepN (s.drop i) : Int) := by
      unfold tailF
      rw [if_neg hp, hat, hg, part_len]
    have hn := stepN_le hune
    rw [fo] at hf
    by_cases hc : (partF (s.drop i) (0 + i)).bad = false ∨ reachF (s.drop i) = 0 ∨ leadF (gt (s.drop i) 0) ≤ reachF (s.drop i)
    · rw [if_pos hc] at hf htail
      have hh : heldF s = 0 := by unfold heldF; rw [hf]; rfl
      have et : told s = partsW s 0 := by unfold told; rw [if_neg (by omega)]
      refine ⟨?_, by rw [htail, hh], ?_, fun h => by omega⟩
      · rw [et, hf]
        simp only
        rw [← hg]
        conv => lhs; rw [← take_last hp]
        rw [List.map_append]; rfl
      · rw [et, if_neg (by omega), List.drop_length]
    · rw [if_neg hc] at hf htail
      have hh : heldF s = (s.drop i).length := by unfold heldF; rw [hf]
      have et : told s = (partsW s 0).take ((partsW s 0).length - 1) := by unfold told; rw [if_pos (by omega)]
      have el : (told s).length = (partsW s 0).length - 1 := by rw [et, List.length_take]; omega
      refine ⟨?_, by rw [htail, hh]; omega, ?_, fun _ => ?_⟩
      · rw [et, hf]; simp
      · rw [el, if_pos (by omega), drop_last hp]
      · rw [hg]; unfold partF
        split
        · rfl
        · split
          · rfl
          · rename_i g1 g2; exact absurd (.inr (.inr (by omega))) hc
/-- What is told of some bytes is told, whatever comes behind. -/
theorem told_mono {a b : List Int} (hb : ∀ x ∈ a ++ b, BU8 x) : (told a).length ≤ (told (a ++ b)).length := by
  have h1 := (told_feed (s := a) fun x hx => hb x (List.mem_append_left _ hx)).1
  have h2 := (told_feed (s := a ++ b) hb).1
  have e1 := congrArg List.length h1
  have e2 := congrArg List.length h2
  rw [feedF_append] at e2
  simp only [List.length_map, List.length_append] at e1 e2
  omega
end Go.Proofs
