import Derived.Test.YtpnbdejdkllflaaP4
set_option linter.unusedVariables false
namespace Go.Proofs
open Go.Lx Try

theorem find_lo : ∀ {l : List Sp} {last : Int}, rgt last l = true → ∀ s ∈ l, sfind l s.lo 0 = s.val
  | [], _, _, s, hs => by cases hs
  | a :: r, last, h, s, hs => by
    rw [rgt_cons] at h
    rw [sfind_cons]
    rcases List.mem_cons.1 hs with rfl | hs
    · rw [if_pos h.1.2.1, if_pos (Int.le_refl _)]
    · have := rgt_mem h.2 s hs
      rw [if_neg (by omega)]
      exact find_lo h.2 s hs

/-- A page's values. -/
def page (l : List Sp) (f : Int) : List Int := (List.range 256).map fun j : Nat => sfind l (f + (j : Int)) 0
theorem page_len (l : List Sp) (f : Int) : (page l f).length = 256 := by simp [page]
theorem page_congr {l m : List Sp} {f : Int} (h : ∀ n, f ≤ n → n < f + 256 → sfind l n 0 = sfind m n 0) : page l f = page m f := by
  unfold page
  refine List.map_congr_left fun j hj => ?_
  have := List.mem_range.1 hj
  exact h _ (by omega) (by omega)
theorem page_const {l : List Sp} {f v : Int} (h : ∀ n, f ≤ n → n < f + 256 → sfind l n 0 = v) : page l f = List.replicate 256 v := by
  rw [List.eq_replicate_iff]
  refine ⟨page_len _ _, fun x hx => ?_⟩
  unfold page at hx
  obtain ⟨j, hj, rfl⟩ := List.mem_map.1 hx
  have := List.mem_range.1 hj
  exact h _ (by omega) (by omega)

theorem fillN_get (v : Int) : ∀ (n : Nat) (x : List Int) (a j : Nat), j < x.length → (fillN v x a n)[j]? = if a ≤ j ∧ j < a + n then some v else x[j]?
  | 0, x, a, j, hj => by rw [fillN, if_neg (by omega)]
  | n + 1, x, a, j, hj => by
    rw [fillN, fillN_get v n (x.set a v) (a + 1) j (by simpa using hj)]
    by_cases h1 : a + 1 ≤ j ∧ j < a + 1 + n
    · rw [if_pos h1, if_pos (by omega)]
    · rw [if_neg h1]
      by_cases h2 : j = a
      · subst h2; rw [if_pos (by omega), List.getElem?_set_self hj]
      · rw [if_neg (by omega), List.getElem?_set_ne (by omega)]
theorem paintF_len (f : Int) : ∀ (r : List Sp) (x : List Int), (paintF f r x).length = x.length
  | [], _ => rfl
  | s :: r, x => by
    rw [paintF]; split
    · rfl
    · rw [paintF_len f r, fillN_len]
theorem paint_get (f : Int) : ∀ (r : List Sp) (x : List Int) (last : Int) (j : Nat) (d : Int), rgt last r = true → x.length = 256 → j < 256 → x[j]? = some d → (paintF f r x)[j]? = some (sfind r (f + (j : Int)) d)
  | [], x, _, j, d, _, _, _, hd => hd
  | s :: r, x, last, j, d, h, hx, hj, hd => by
    rw [rgt_cons] at h
    rw [paintF, sfind_cons]
    split
    · rename_i h1
      rw [if_pos (by omega), if_neg (by omega)]; exact hd
    · rename_i h1
      have hg := fillN_get s.val (min s.hi (f + 256 - 1) + 1 - max s.lo f).toNat x (max s.lo f - f).toNat j (by omega)
      by_cases h2 : f + (j : Int) ≤ s.hi
      · rw [if_pos h2]
        by_cases h3 : s.lo ≤ f + (j : Int)
        · rw [if_pos h3]
          rw [if_pos (by omega)] at hg
          rw [paint_get f r _ s.hi j s.val h.2 (by rw [fillN_len]; exact hx) hj hg, sfind_low h.2 h2]
        · rw [if_neg h3]
          rw [if_neg (by omega), hd] at hg
          rw [paint_get f r _ s.hi j d h.2 (by rw [fillN_len]; exact hx) hj hg, sfind_low h.2 h2]
      · rw [if_neg h2]
        rw [if_neg (by omega), hd] at hg
        exact paint_get f r _ s.hi j d h.2 (by rw [fillN_len]; exact hx) hj hg
theorem paint_page {f : Int} {r : List Sp} {last : Int} (h : rgt last r = true) : paintF f r (List.replicate 256 0) = page r f := by
  apply List.ext_getElem?
  intro j
  rcases Nat.lt_or_ge j 256 with hj | hj
  · rw [paint_get f r _ last j 0 h List.length_replicate hj (by rw [List.getElem?_replicate, if_pos hj])]
    unfold page
    rw [List.getElem?_map, List.getElem?_range hj]; rfl
  · rw [List.getElem?_eq_none (by rw [paintF_len, List.length_replicate]; exact hj), List.getElem?_eq_none (by rw [page_len]; exact hj)]

theorem drop_spec (f : Int) : ∀ (l : List Sp) (last : Int), rgt last l = true → (∃ last', rgt last' (l.dropWhile fun s => decide (s.hi < f)) = true) ∧ (∀ n, f ≤ n → sfind (l.dropWhile fun s => decide (s.hi < f)) n 0 = sfind l n 0)
  | [], last, h => ⟨⟨last, h⟩, fun n hn => rfl⟩
  | s :: r, last, h => by
    rw [List.dropWhile_cons]
    split
    · rename_i h1
      have h1 : s.hi < f := by simpa using h1
      have ih := drop_spec f r s.hi (rgt_cons.1 h).2
      refine ⟨ih.1, fun n hn => ?_⟩
      rw [ih.2 n hn, sfind_cons, if_neg (by omega)]
    · exact ⟨⟨last, h⟩, fun n hn => rfl⟩
theorem whole_spec {f : Int} {r : List Sp} {last : Int} (h : rgt last r = true) (hw : (wholeF r f).2 = true) : page r f = List.replicate 256 (wholeF r f).1 := by
  refine page_const fun n h1 h2 => ?_
  unfold wholeF at hw ⊢
  cases r with
  | nil => rfl
  | cons s t =>
    have hg : gt (s :: t) 0 = s := rfl
    rw [hg] at hw ⊢
    rw [sfind_cons]
    have hs := rgt_cons.1 h
    by_cases c1 : (s :: t).length = 0 ∨ f + 256 ≤ s.lo
    · rw [if_pos c1]
      have : f + 256 ≤ s.lo := by rcases c1 with c | c; simp at c; exact c
      rw [if_pos (by omega), if_neg (by omega)]
    · rw [if_neg c1] at hw ⊢
      by_cases c2 : s.lo ≤ f ∧ f + 256 - 1 ≤ s.hi
      · rw [if_pos c2, if_pos (by omega), if_pos (by omega)]
      · rw [if_neg c2] at hw; cases hw
theorem fI_some {k : Int} : ∀ {L : List (Int × Int)} {i : Nat} {p : Nat × Int}, fI k L i = some p → (k, p.2) ∈ L
  | [], _, _, h => by cases h
  | (k', v) :: r, i, p, h => by
    rw [fI] at h
    split at h
    · rename_i e; subst e; cases h; exact List.mem_cons_self
    · exact List.mem_cons_of_mem _ (fI_some h)
theorem fA_spec {x : List Int} : ∀ (L : List (List Int)) (i : Nat), match fA x L i with | some j => i ≤ j ∧ L[j - i]? = some x | none => x ∉ L
  | [], _ => by simp [fA]
  | y :: r, i => by
    rw [fA]
    by_cases h : x = y
    · subst h; simp
    · rw [if_neg h]
      have ih := fA_spec (x := x) r (i + 1)
      cases hh : fA x r (i + 1) with
      | none => rw [hh] at ih; dsimp only at ih ⊢; simp [h, ih]
      | some j =>
        rw [hh] at ih; dsimp only at ih ⊢
        refine ⟨by omega, ?_⟩
        rw [show j - i = (j - (i + 1)) + 1 by omega, List.getElem?_cons_succ]; exact ih.2
theorem numF_spec (x : List Int) (Bk : List (List Int)) (hn : Bk.Nodup) : (numF x Bk).2[(numF x Bk).1]? = some x ∧ (numF x Bk).2.Nodup ∧ (∀ (k : Nat) (y : List Int), Bk[k]? = some y → (numF x Bk).2[k]? = some y) ∧ ∀ y ∈ (numF x Bk).2, y ∈ Bk ∨ y = x := by
  have h := fA_spec (x := x) Bk 0
  unfold numF
  cases hh : fA x Bk 0 with
  | some j =>
    rw [hh] at h
    exact ⟨by simpa using h.2, hn, fun k y hk => hk, fun y hy => .inl hy⟩
  | none =>
    rw [hh] at h
    refine ⟨by simp, ?_, fun k y hk => ?_, fun y hy => ?_⟩
    · rw [List.nodup_append]
      refine ⟨hn, by simp, fun a ha b hb => ?_⟩
      simp only [List.mem_singleton] at hb
      subst hb
      intro e; subst e; exact h ha
    · have := (List.getElem?_eq_some_iff.1 hk).1
      rw [List.getElem?_append_left this]; exact hk
    · simpa using hy

/-- What the builder knows behind p pages. -/
structure BI (l : List Sp) (p : Nat) (st : List Int × List Sp × List (List Int) × List (Int × Int)) : Prop where
  fl : st.1.length = 4352
  pg : ∀ q : Nat, q < p → ∃ k : Nat, st.1[q]? = some (k : Int) ∧ st.2.2.1[k]? = some (page l ((q : Int) * 256))
  src : ∀ x ∈ st.2.2.1, ∃ q : Nat, q < p ∧ x = page l ((q : Int) * 256)
  nd : st.2.2.1.Nodup
  ev : ∀ e ∈ st.2.2.2, ∃ k : Nat, e.2 = (k : Int) ∧ st.2.2.1[k]? = some (List.replicate 256 e.1)
  rr : ∃ last, rgt last st.2.1 = true
  rf : ∀ n, (p : Int) * 256 ≤ n → sfind st.2.1 n 0 = sfind l n 0
theorem bld_spec {l : List Sp} (hr : rgt (-1) l = true) : ∀ p : Nat, p ≤ 4352 → BI l p (bldF l p)
  | 0, _ => ⟨List.length_replicate, fun q hq => (by omega), fun x hx => (by cases hx), List.nodup_nil, fun e he => (by cases he), ⟨-1, hr⟩, fun n hn => rfl⟩
  | p + 1, hp => by
    have ih := bld_spec hr p (by omega)
    obtain ⟨⟨F, rest, Bk, Ev⟩, hst⟩ : ∃ st, bldF l p = st := ⟨_, rfl⟩
    rw [hst] at ih
    obtain ⟨fl, pg, src, nd, ev, ⟨last, hrr⟩, rf⟩ := ih
    dsimp only at fl pg src nd ev hrr rf
    have hb : bldF l (p + 1) = (F.set p (pageF ((p : Int) * 256) rest Bk Ev).1, (pageF ((p : Int) * 256) rest Bk Ev).2.1, (pageF ((p : Int) * 256) rest Bk Ev).2.2.1, (pageF ((p : Int) * 256) rest Bk Ev).2.2.2) := by
      rw [bldF, hst]
    rw [hb]
    obtain ⟨⟨last', hr2⟩, hf2⟩ := drop_spec ((p : Int) * 256) rest last hrr
    unfold pageF
    obtain ⟨R, hR⟩ : ∃ R, rest.dropWhile (fun s => decide (s.hi < (p : Int) * 256)) = R := ⟨_, rfl⟩
    rw [hR] at hr2 hf2 ⊢
    have hpage : page R ((p : Int) * 256) = page l ((p : Int) * 256) := page_congr fun n h1 h2 => by rw [hf2 n h1, rf n h1]
    have hrf : ∀ n, ((p + 1 : Nat) : Int) * 256 ≤ n → sfind R n 0 = sfind l n 0 := fun n hn => by rw [hf2 n (by omega), rf n (by omega)]
    rw [paint_page hr2, hpage]
    have old : ∀ (x : Int) (B' : List (List Int)), (∀ (k : Nat) (y : List Int), Bk[k]? = some y → B'[k]? = some y) → (∃ k : Nat, x = (k : Int) ∧ B'[k]? = some (page l ((p : Int) * 256))) →
        ∀ q : Nat, q < p + 1 → ∃ k : Nat, (F.set p x)[q]? = some (k : Int) ∧ B'[k]? = some (page l ((q : Int) * 256)) := by
      intro x B' hB hx q hq
      by_cases h : q = p
      · subst h
        obtain ⟨k, hk1, hk2⟩ := hx
        exact ⟨k, by rw [List.getElem?_set_self (by omega), hk1], hk2⟩
      · obtain ⟨k, hk1, hk2⟩ := pg q (by omega)
        exact ⟨k, by rw [List.getElem?_set_ne (fun e => h e.symm)]; exact hk1, hB k _ hk2⟩
    split
    · rename_i pr hpr
      split at hpr
      · rename_i hw
        have hm := fI_some hpr
        obtain ⟨k, hk1, hk2⟩ := ev _ hm
        dsimp only at hk1 hk2
        have hwp := whole_spec hr2 hw
        rw [hpage] at hwp
        refine ⟨by simpa using fl, old _ Bk (fun _ _ h => h) ⟨k, hk1, by rw [hwp]; exact hk2⟩, fun x hx => ?_, nd, ev, ⟨last', hr2⟩, hrf⟩
        obtain ⟨q, hq, e⟩ := src x hx
        exact ⟨q, by omega, e⟩
      · cases hpr
    · rename_i hno
      have hn := numF_spec (page l ((p : Int) * 256)) Bk nd
      refine ⟨by simpa using fl, old _ _ hn.2.2.1 ⟨_, rfl, hn.1⟩, fun x hx => ?_, hn.2.1, fun e he => ?_, ⟨last', hr2⟩, hrf⟩
      · rcases hn.2.2.2 x hx with h | h
        · obtain ⟨q, hq, e⟩ := src x h
          exact ⟨q, by omega, e⟩
        · exact ⟨p, by omega, h⟩
      · dsimp only at he
        split at he
        · rename_i hw
          rcases List.mem_append.1 he with h | h
          · obtain ⟨k, hk1, hk2⟩ := ev e h
            exact ⟨k, hk1, hn.2.2.1 k _ hk2⟩
          · simp only [List.mem_singleton] at h
            subst h
            have hwp := whole_spec hr2 hw
            rw [hpage] at hwp
            exact ⟨_, rfl, by dsimp only; rw [← hwp]; exact hn.1⟩
        · obtain ⟨k, hk1, hk2⟩ := ev e he
          exact ⟨k, hk1, hn.2.2.1 k _ hk2⟩
end Go.Proofs
