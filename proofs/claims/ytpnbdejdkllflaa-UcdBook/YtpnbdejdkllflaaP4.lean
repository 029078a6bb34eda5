import Derived.Test.YtpnbdejdkllflaaP3
set_option linter.unusedVariables false
namespace Go.Proofs
open Go.Lx Try

/-- What the merge has laid, up to q; what is to come. -/
structure MI (fa fb : Int → Int) (o r : List Sp) (q : Int) : Prop where
  g : Good o q
  q0 : 0 ≤ q
  sr : rgt (q - 1) r = true
  v : ∀ x ∈ r, x.val ≤ 30000
  lo : ∀ n, n < q → sfind o n 0 = fa n + fb n
  hi : ∀ n, q ≤ n → sfind r n 0 = fb n
theorem MI.zero {fa fb : Int → Int} {o r : List Sp} {q : Int} (m : MI fa fb o r q) {n : Int} (h : q ≤ n) : sfind o n 0 = 0 := sfind_high m.g.hi h
theorem m1_spec {fa fb : Int → Int} (lo : Int) : ∀ (r o : List Sp) (q : Int), MI fa fb o r q → q ≤ lo → (∀ n, q ≤ n → n < lo → fa n = 0) →
    ∃ q', q ≤ q' ∧ q' ≤ lo ∧ MI fa fb (m1 lo r o).1 (m1 lo r o).2 q' ∧ ∀ x r', (m1 lo r o).2 = x :: r' → lo ≤ x.hi
  | [], o, q, m, hq, hz => ⟨q, Int.le_refl _, hq, m, fun x r' h => by cases h⟩
  | x :: r, o, q, m, hq, hz => by
    unfold m1
    have hr := rgt_cons.1 m.sr
    split
    · rename_i hx
      have g := m.g.add (s := x) m.q0 (by omega) hr.1.2.1 hr.1.2.2.1 hr.1.2.2.2.1 hr.1.2.2.2.2
      have m' : MI fa fb (o ++ [x]) r (x.hi + 1) := by
        refine ⟨g.1, by have := m.q0; omega, by rw [show x.hi + 1 - 1 = x.hi by omega]; exact hr.2, fun y hy => m.v y (List.mem_cons_of_mem _ hy), fun n hn => ?_, fun n hn => ?_⟩
        · rw [g.2]
          by_cases h1 : n < q
          · rw [if_neg (by omega)]; exact m.lo n h1
          · have h2 := m.hi n (by omega)
            rw [sfind_cons, if_pos (by omega)] at h2
            rw [hz n (by omega) (by omega), ← h2]
            by_cases h3 : x.lo ≤ n
            · rw [if_pos ⟨h3, by omega⟩, if_pos h3]; omega
            · rw [if_neg (by omega), if_neg h3, m.zero (by omega)]; rfl
        · have h2 := m.hi n (by omega)
          rw [sfind_cons, if_neg (by omega)] at h2
          exact h2
      obtain ⟨q', h1, h2, h3⟩ := m1_spec lo r (o ++ [x]) (x.hi + 1) m' (by omega) fun n ha hb => hz n (by omega) hb
      exact ⟨q', by omega, h2, h3⟩
    · rename_i hx
      exact ⟨q, Int.le_refl _, hq, m, fun y r' h => by cases h; omega⟩

/-- A span of the first list is done. -/
theorem mfin_spec {fa fb : Int → Int} {s : Sp} (hs : 0 ≤ s.lo ∧ s.lo ≤ s.hi ∧ s.hi ≤ 1114111 ∧ 1 ≤ s.val ∧ s.val ≤ 30000) (hfa : ∀ n, s.lo ≤ n → n ≤ s.hi → fa n = s.val) :
    ∀ (r o : List Sp) (f q : Int), MI fa fb o r q → q ≤ f → (q = f ∨ f = s.lo) → s.lo ≤ f → f ≤ s.hi + 1 → (∀ n, q ≤ n → n < s.lo → fa n = 0) → (∀ x r', r = x :: r' → f ≤ x.hi) →
      MI fa fb (mfin s (m2 s r f o)).1 (mfin s (m2 s r f o)).2 (s.hi + 1) := by
  have fin : ∀ (r o : List Sp) (f q : Int), MI fa fb o r q → q ≤ f → (q = f ∨ f = s.lo) → s.lo ≤ f → f ≤ s.hi + 1 → (∀ n, q ≤ n → n < s.lo → fa n = 0) → (∀ x r', r = x :: r' → s.hi < x.lo) →
      MI fa fb (lay2 o f s.hi s.val) r (s.hi + 1) := by
    intro r o f q m hqf hor hf1 hf2 hz hx
    have g := m.g.lay2 (lo := f) (hi := s.hi) (v := s.val) m.q0 fun h => ⟨hqf, hs.2.2.1, hs.2.2.2.1, by omega⟩
    have hr0 : ∀ n, n ≤ s.hi → sfind r n 0 = 0 := fun n hn => by
      cases r with
      | nil => rfl
      | cons x r' =>
        have h1 := hx x r' rfl
        have h2 := rgt_cons.1 m.sr
        rw [sfind_cons, if_pos (by omega), if_neg (by omega)]
    refine ⟨g.1.mono (by omega), by omega, ?_, m.v, fun n hn => ?_, fun n hn => m.hi n (by omega)⟩
    · rw [show s.hi + 1 - 1 = s.hi by omega]
      cases r with
      | nil => rfl
      | cons x r' =>
        have h1 := hx x r' rfl
        have h2 := rgt_cons.1 m.sr
        exact rgt_cons.2 ⟨by omega, h2.2⟩
    · rw [g.2]
      by_cases h1 : n < q
      · rw [if_neg (by omega)]; exact m.lo n h1
      · have h2 := m.hi n (by omega)
        rw [hr0 n (by omega)] at h2
        by_cases h3 : f ≤ n
        · rw [if_pos (by omega), ← h2, hfa n (by omega) (by omega)]; omega
        · rw [if_neg (by omega), m.zero (by omega), ← h2, hz n (by omega) (by omega)]; rfl
  intro r
  induction r with
  | nil => intro o f q m hqf hor hf1 hf2 hz hx; exact fin [] o f q m hqf hor hf1 hf2 hz fun x r' h => by cases h
  | cons x r ih =>
    intro o f q m hqf hor hf1 hf2 hz hx
    have hfx := hx x r rfl
    have hr := rgt_cons.1 m.sr
    have hvx := m.v x List.mem_cons_self
    have hq0 := m.q0
    by_cases hxs : x.lo ≤ s.hi
    · have e2 : m2 s (x :: r) f o = if s.hi < x.hi then (m3 s x f o, x.hi + 1, ⟨s.hi + 1, x.hi, x.val⟩ :: r) else m2 s r (x.hi + 1) (m3 s x f o) := by
        rw [m2, if_pos hxs]
      have g1 := m.g.lay2 (lo := x.lo) (hi := min x.hi (s.lo - 1)) (v := x.val) hq0 fun h => ⟨by omega, by omega, hr.1.2.2.2.1, by omega⟩
      have g2 := g1.1.lay2 (lo := f) (hi := x.lo - 1) (v := s.val) (by omega) fun h => ⟨by omega, by omega, hs.2.2.2.1, by omega⟩
      have g3 := g2.1.lay2 (lo := max x.lo f) (hi := min x.hi s.hi) (v := s.val + x.val) (by omega) fun h => ⟨by omega, by omega, by omega, by omega⟩
      have gm : Good (m3 s x f o) (min x.hi s.hi + 1) := g3.1.mono (by omega)
      have hlo : ∀ n, n ≤ min x.hi s.hi → sfind (m3 s x f o) n 0 = fa n + fb n := fun n hn => by
        show sfind (lay2 (lay2 (lay2 o x.lo (min x.hi (s.lo - 1)) x.val) f (x.lo - 1) s.val) (max x.lo f) (min x.hi s.hi) (s.val + x.val)) n 0 = _
        rw [g3.2, g2.2, g1.2]
        by_cases h1 : n < q
        · rw [if_neg (by omega), if_neg (by omega), if_neg (by omega)]; exact m.lo n h1
        · have h2 := m.hi n (by omega)
          rw [sfind_cons, if_pos (by omega)] at h2
          rw [← h2, m.zero (by omega)]
          by_cases h3 : n < s.lo
          · rw [hz n (by omega) h3, if_neg (by omega), if_neg (by omega)]
            by_cases h4 : x.lo ≤ n
            · rw [if_pos (by omega), if_pos h4]; omega
            · rw [if_neg (by omega), if_neg h4]; rfl
          · rw [hfa n (by omega) (by omega)]
            by_cases h4 : x.lo ≤ n
            · rw [if_pos (by omega), if_pos h4]
            · rw [if_neg (by omega), if_pos (by omega), if_neg h4]; omega
      rw [e2]
      by_cases hbr : s.hi < x.hi
      · rw [if_pos hbr]
        have efin : mfin s (m3 s x f o, x.hi + 1, ⟨s.hi + 1, x.hi, x.val⟩ :: r) = (m3 s x f o, ⟨s.hi + 1, x.hi, x.val⟩ :: r) := by
          unfold mfin Go.Proofs.lay2
          dsimp only
          rw [if_pos (by omega)]
        rw [efin]
        refine ⟨gm.mono (by omega), by omega, rgt_cons.2 ⟨by dsimp only; omega, hr.2⟩, fun y hy => ?_, fun n hn => hlo n (by omega), fun n hn => ?_⟩
        · rcases List.mem_cons.1 hy with rfl | hy
          · exact hvx
          · exact m.v y (List.mem_cons_of_mem _ hy)
        · have h2 := m.hi n (by omega)
          rw [sfind_cons] at h2
          rw [← h2, sfind_cons]
          dsimp only
          by_cases h3 : n ≤ x.hi
          · rw [if_pos h3, if_pos h3, if_pos (by omega), if_pos (by omega)]
          · rw [if_neg h3, if_neg h3]
      · rw [if_neg hbr]
        refine ih (m3 s x f o) (x.hi + 1) (x.hi + 1) ⟨gm.mono (by omega), by omega, by rw [show x.hi + 1 - 1 = x.hi by omega]; exact hr.2, fun y hy => m.v y (List.mem_cons_of_mem _ hy), fun n hn => hlo n (by omega), fun n hn => ?_⟩ (Int.le_refl _) (.inl rfl) (by omega) (by omega) (fun n h1 h2 => by omega) fun y r' h => ?_
        · have h2 := m.hi n (by omega)
          rw [sfind_cons, if_neg (by omega)] at h2
          exact h2
        · have h3 := hr.2
          rw [h] at h3
          have h4 := rgt_cons.1 h3
          omega
    · have e2 : m2 s (x :: r) f o = (o, f, x :: r) := by rw [m2, if_neg hxs]
      rw [e2]
      exact fin (x :: r) o f q m hqf hor hf1 hf2 hz fun y r' h => by cases h; omega

theorem mrg_go {fa fb : Int → Int} : ∀ (t o r : List Sp) (q : Int), MI fa fb o r q → rgt (q - 1) t = true → (∀ s ∈ t, s.val ≤ 30000) → (∀ n, q ≤ n → sfind t n 0 = fa n) →
    rgt (-1) ((t.foldl mstep (o, r)).1 ++ (t.foldl mstep (o, r)).2) = true ∧ ∀ n, sfind ((t.foldl mstep (o, r)).1 ++ (t.foldl mstep (o, r)).2) n 0 = fa n + fb n
  | [], o, r, q, m, ht, hv, hf => by
    refine ⟨rgt_append m.g.r m.g.hi (by have := m.q0; omega) m.sr, fun n => ?_⟩
    show sfind (o ++ r) n 0 = _
    rw [sfind_append m.g.hi m.sr]
    split
    · rename_i h; exact m.lo n h
    · rename_i h
      have h1 := hf n (by omega)
      rw [sfind_nil] at h1
      rw [m.hi n (by omega), ← h1]; omega
  | s :: t, o, r, q, m, ht, hv, hf => by
    have hr := rgt_cons.1 ht
    have hvs := hv s List.mem_cons_self
    have hq0 := m.q0
    have hz : ∀ n, q ≤ n → n < s.lo → fa n = 0 := fun n h1 h2 => by
      have := hf n h1
      rw [sfind_cons, if_pos (by omega), if_neg (by omega)] at this
      exact this.symm
    have hfa : ∀ n, s.lo ≤ n → n ≤ s.hi → fa n = s.val := fun n h1 h2 => by
      have := hf n (by omega)
      rw [sfind_cons, if_pos (by omega), if_pos (by omega)] at this
      exact this.symm
    obtain ⟨q', h1, h2, m', hx⟩ := m1_spec s.lo r o q m (by omega) hz
    have mf := mfin_spec ⟨by omega, hr.1.2.1, hr.1.2.2.1, hr.1.2.2.2.1, hvs⟩ hfa (m1 s.lo r o).2 (m1 s.lo r o).1 s.lo q' m' h2 (.inr rfl) (Int.le_refl _) (by omega) (fun n ha hb => hz n (by omega) hb) hx
    have := mrg_go t (mfin s (m2 s (m1 s.lo r o).2 s.lo (m1 s.lo r o).1)).1 (mfin s (m2 s (m1 s.lo r o).2 s.lo (m1 s.lo r o).1)).2 (s.hi + 1) mf (by rw [show s.hi + 1 - 1 = s.hi by omega]; exact hr.2) (fun y hy => hv y (List.mem_cons_of_mem _ hy)) fun n hn => by
      have := hf n (by omega)
      rw [sfind_cons, if_neg (by omega)] at this
      exact this
    exact this
theorem mrg_spec {a b : List Sp} (ha : rgt (-1) a = true) (hb : rgt (-1) b = true) (hva : ∀ s ∈ a, s.val ≤ 30000) (hvb : ∀ s ∈ b, s.val ≤ 30000) :
    rgt (-1) (mrg a b) = true ∧ ∀ n, sfind (mrg a b) n 0 = sfind a n 0 + sfind b n 0 := by
  have m : MI (fun n => sfind a n 0) (fun n => sfind b n 0) [] b 0 := ⟨⟨rfl, fun s hs => by cases hs⟩, Int.le_refl _, hb, hvb, fun n hn => by
    rw [sfind_low ha (by omega), sfind_low hb (by omega)]; rfl, fun n hn => rfl⟩
  exact mrg_go a [] b 0 m ha hva fun n hn => rfl
end Go.Proofs
