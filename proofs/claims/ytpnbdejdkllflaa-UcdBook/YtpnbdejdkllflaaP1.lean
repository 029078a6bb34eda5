import Derived.Test.YtpnbdejdkllflaaU20
set_option linter.unusedVariables false
namespace Go.Proofs
open Go.Lx Try

/-! ### Lists of spans as functions -/
theorem sfind_nil (n d : Int) : sfind [] n d = d := rfl
theorem sfind_cons (s : Sp) (r : List Sp) (n d : Int) : sfind (s :: r) n d = if n ≤ s.hi then (if s.lo ≤ n then s.val else d) else sfind r n d := by
  unfold sfind
  by_cases h : n ≤ s.hi
  · simp [h]
  · simp [h]
theorem rgt_cons {last : Int} {s : Sp} {r : List Sp} : rgt last (s :: r) = true ↔ (last < s.lo ∧ s.lo ≤ s.hi ∧ s.hi ≤ 1114111 ∧ 1 ≤ s.val ∧ s.val ≤ 65535) ∧ rgt s.hi r = true := by
  simp only [rgt]
  split
  · rename_i h; constructor
    · intro hh; cases hh
    · intro hh; omega
  · rename_i h; constructor
    · intro hh; exact ⟨by omega, hh⟩
    · intro hh; exact hh.2
theorem rgt_mono {a b : Int} {l : List Sp} (h : rgt b l = true) (hab : a ≤ b) : rgt a l = true := by
  cases l with
  | nil => rfl
  | cons s r => rw [rgt_cons] at *; exact ⟨by omega, h.2⟩
/-- Ahead of a right list's beginning nothing is found. -/
theorem sfind_low {last : Int} {l : List Sp} (h : rgt last l = true) {n d : Int} (hn : n ≤ last) : sfind l n d = d := by
  cases l with
  | nil => rfl
  | cons s r =>
    rw [rgt_cons] at h
    rw [sfind_cons, if_pos (by omega), if_neg (by omega)]
theorem sfind_high {l : List Sp} {b : Int} (h : ∀ s ∈ l, s.hi < b) {n d : Int} (hn : b ≤ n) : sfind l n d = d := by
  induction l with
  | nil => rfl
  | cons s r ih =>
    have := h s List.mem_cons_self
    rw [sfind_cons, if_neg (by omega)]
    exact ih fun y hy => h y (List.mem_cons_of_mem _ hy)
theorem sfind_append {l m : List Sp} {b : Int} (h : ∀ s ∈ l, s.hi < b) (hm : rgt (b - 1) m = true) (n d : Int) : sfind (l ++ m) n d = if n < b then sfind l n d else sfind m n d := by
  induction l with
  | nil =>
    rw [List.nil_append, sfind_nil]
    split
    · exact sfind_low hm (by omega)
    · rfl
  | cons s r ih =>
    have hs := h s List.mem_cons_self
    rw [List.cons_append, sfind_cons, sfind_cons, ih fun y hy => h y (List.mem_cons_of_mem _ hy)]
    by_cases h1 : n ≤ s.hi
    · rw [if_pos h1, if_pos h1, if_pos (show n < b by omega)]
    · rw [if_neg h1, if_neg h1]
theorem rgt_append {last b : Int} {l m : List Sp} (hl : rgt last l = true) (h : ∀ s ∈ l, s.hi < b) (hlb : last < b) (hm : rgt (b - 1) m = true) : rgt last (l ++ m) = true := by
  induction l generalizing last with
  | nil => exact rgt_mono hm (by omega)
  | cons s r ih =>
    rw [List.cons_append, rgt_cons]
    rw [rgt_cons] at hl
    exact ⟨hl.1, ih hl.2 (fun y hy => h y (List.mem_cons_of_mem _ hy)) (h s List.mem_cons_self)⟩
/-- One span more. -/
structure Good (l : List Sp) (b : Int) : Prop where
  r : rgt (-1) l = true
  hi : ∀ s ∈ l, s.hi < b
theorem Good.mono {l : List Sp} {b c : Int} (g : Good l b) (h : b ≤ c) : Good l c := ⟨g.r, fun s hs => by have := g.hi s hs; omega⟩
theorem Good.add {l : List Sp} {b : Int} {s : Sp} (g : Good l b) (h0 : 0 ≤ b) (h1 : b ≤ s.lo) (h2 : s.lo ≤ s.hi) (h3 : s.hi ≤ 1114111) (h4 : 1 ≤ s.val) (h5 : s.val ≤ 65535) : Good (l ++ [s]) (s.hi + 1) ∧ ∀ n, sfind (l ++ [s]) n 0 = if s.lo ≤ n ∧ n ≤ s.hi then s.val else sfind l n 0 := by
  have hr : rgt (b - 1) [s] = true := by rw [rgt_cons]; exact ⟨by omega, rfl⟩
  refine ⟨⟨rgt_append g.r g.hi (by omega) hr, fun t ht => ?_⟩, fun n => ?_⟩
  · rcases List.mem_append.1 ht with h | h
    · have := g.hi t h; omega
    · simp only [List.mem_singleton] at h; subst h; omega
  · rw [sfind_append g.hi hr, sfind_cons, sfind_nil]
    by_cases hb : n < b
    · rw [if_pos hb, if_neg (by omega)]
    · rw [if_neg hb]
      by_cases ha : n ≤ s.hi
      · rw [if_pos ha]
        by_cases hl : s.lo ≤ n
        · rw [if_pos hl, if_pos ⟨hl, ha⟩]
        · rw [if_neg hl, if_neg (by omega), sfind_high g.hi (by omega)]
      · rw [if_neg ha, if_neg (by omega), sfind_high g.hi (by omega)]
theorem Good.lay2 {l : List Sp} {b lo hi v : Int} (g : Good l b) (h0 : 0 ≤ b) (h1 : lo ≤ hi → b ≤ lo ∧ hi ≤ 1114111 ∧ 1 ≤ v ∧ v ≤ 65535) :
    Good (lay2 l lo hi v) (max b (hi + 1)) ∧ ∀ n, sfind (lay2 l lo hi v) n 0 = if lo ≤ n ∧ n ≤ hi then v else sfind l n 0 := by
  unfold Go.Proofs.lay2
  split
  · refine ⟨g.mono (by omega), fun n => ?_⟩
    rw [if_neg (by omega)]
  · have := h1 (by omega)
    have h := g.add (s := ⟨lo, hi, v⟩) h0 this.1 (by dsimp only; omega) this.2.1 this.2.2.1 this.2.2.2
    exact ⟨h.1.mono (by dsimp only; omega), h.2⟩
theorem rgt_snoc {t : Sp} : ∀ {p : List Sp} {last : Int}, rgt last (p ++ [t]) = true → rgt last p = true ∧ ∀ s ∈ p, s.hi < t.lo
  | [], _, _ => ⟨rfl, fun s hs => by cases hs⟩
  | a :: r, last, h => by
    rw [List.cons_append, rgt_cons] at h
    have ih := rgt_snoc h.2
    have hm := rgt_mem h.2 t (by simp)
    refine ⟨rgt_cons.2 ⟨h.1, ih.1⟩, fun s hs => ?_⟩
    rcases List.mem_cons.1 hs with rfl | hs
    · exact hm.1
    · exact ih.2 s hs
theorem getLast_split {l : List Sp} {t : Sp} (h : l.getLast? = some t) : ∃ p, l = p ++ [t] := by
  rw [List.getLast?_eq_some_iff] at h; exact h
theorem Good.layF {l : List Sp} {b : Int} {s : Sp} (g : Good l b) (h0 : 0 ≤ b) (h1 : b ≤ s.lo) (h2 : s.lo ≤ s.hi) (h3 : s.hi ≤ 1114111) (h4 : 1 ≤ s.val) (h5 : s.val ≤ 65535) :
    Good (layF l s) (s.hi + 1) ∧ ∀ n, sfind (layF l s) n 0 = if s.lo ≤ n ∧ n ≤ s.hi then s.val else sfind l n 0 := by
  unfold Go.Proofs.layF
  split
  · rename_i t ht
    split
    · rename_i hc
      obtain ⟨p, rfl⟩ := getLast_split ht
      have hset : (p ++ [t]).set ((p ++ [t]).length - 1) ⟨t.lo, s.hi, t.val⟩ = p ++ [⟨t.lo, s.hi, t.val⟩] := by
        rw [List.length_append, List.length_singleton, Nat.add_sub_cancel, List.set_append_right _ _ (Nat.le_refl _), Nat.sub_self]; rfl
      rw [hset]
      have hmt := rgt_mem g.r t (by simp)
      have hsp := rgt_snoc g.r
      have gp : Good p t.lo := ⟨hsp.1, hsp.2⟩
      have ht2 := g.hi t (by simp)
      have h6 := gp.add (s := ⟨t.lo, s.hi, t.val⟩) (by omega) (Int.le_refl _) (by dsimp only; omega) h3 hmt.2.2.2.1 hmt.2.2.2.2
      have h7 := gp.add (s := t) (by omega) (Int.le_refl _) hmt.2.1 hmt.2.2.1 hmt.2.2.2.1 hmt.2.2.2.2
      refine ⟨h6.1, fun n => ?_⟩
      rw [h6.2, h7.2]
      dsimp only
      by_cases ha : t.lo ≤ n ∧ n ≤ s.hi
      · rw [if_pos ha]
        by_cases hb : s.lo ≤ n ∧ n ≤ s.hi
        · rw [if_pos hb]; exact hc.1
        · rw [if_neg hb, if_pos (by omega)]
      · rw [if_neg ha, if_neg (by omega), if_neg (by omega)]
    · exact g.add h0 h1 h2 h3 h4 h5
  · exact g.add h0 h1 h2 h3 h4 h5
end Go.Proofs
