import Derived.Test.YteeienbhmkiloaaGreatDoorW2
set_option linter.unusedSimpArgs false
set_option linter.unusedVariables false
namespace Go.Proofs
open Go.Lx

def leadF (x : Int) : Int := if 240 ≤ x ∧ x ≤ 244 then 4 else if 224 ≤ x ∧ x < 240 then 3 else if 194 ≤ x ∧ x < 224 then 2 else if x < 128 then 1 else 0
def lo2 (x : Int) : Int := if x = 224 then 160 else if x = 240 then 144 else 128
def hi2 (x : Int) : Int := if x = 244 then 143 else if x = 237 then 159 else 191
/-- May byte y stand as number i of a form that begins with x? -/
def okB (x : Int) (i : Nat) (y : Int) : Bool := if i = 1 then decide (lo2 x ≤ y) && decide (y ≤ hi2 x) else decide (128 ≤ y) && decide (y ≤ 191)
/-- How many of some bytes, from number i on, at most m, go on a form that begins with x. -/
def tailN (x : Int) : Nat → Nat → List Int → Nat
  | _, 0, _ => 0
  | _, _ + 1, [] => 0
  | i, m + 1, y :: r => if okB x i y = true then 1 + tailN x (i + 1) m r else 0
/-- How many bytes of a form stand in front. -/
def reachF (s : List Int) : Nat := if leadF (gt s 0) < 2 then (leadF (gt s 0)).toNat else 1 + tailN (gt s 0) 1 ((leadF (gt s 0)).toNat - 1) (s.drop 1)

/-- The first j bytes are those of a form of n bytes. -/
def goodN (s : List Int) : Nat → Bool
  | 0 => true
  | 1 => true
  | j + 2 => goodN s (j + 1) && okB (gt s 0) (j + 1) (gt s ((j : Int) + 1))

theorem gt_take {s : List Int} {j : Nat} {i : Int} (h0 : 0 ≤ i) (h : i < j) : gt (s.take j) i = gt s i := by
  unfold gt
  rw [List.getD_eq_getElem?_getD, List.getD_eq_getElem?_getD, List.getElem?_take, if_pos (by omega)]

theorem some_eq {t : List Int} {n : Int} (hb : ∀ x ∈ t, BU8 x) (h1 : 1 ≤ t.length) (hn : 1 ≤ n ∧ n ≤ 4) (hl : (t.length : Int) ≤ n) :
    someF t n = (decide (leadF (gt t 0) = n) && goodN t t.length) := by
  have hn' : n = 1 ∨ n = 2 ∨ n = 3 ∨ n = 4 := by omega
  match t, h1 with
  | [x], _ =>
    have bx := hb x (by simp)
    rw [Bool.eq_iff_iff]
    rcases hn' with rfl | rfl | rfl | rfl
    all_goals
      simp [someF, goodN, leadF, gt, marks, sizes, froms, tos, tailOk, loA, hiA]
      omega
  | [x, y], _ =>
    have bx := hb x (by simp)
    have by_ := hb y (by simp)
    rw [Bool.eq_iff_iff]
    rcases hn' with rfl | rfl | rfl | rfl
    · simp at hl
    all_goals
      simp [someF, goodN, leadF, gt, marks, sizes, froms, tos, tailOk, loA, hiA, okB, lo2, hi2]
      omega
  | [x, y, z], _ =>
    have bx := hb x (by simp)
    have by_ := hb y (by simp)
    have bz := hb z (by simp)
    rw [Bool.eq_iff_iff]
    rcases hn' with rfl | rfl | rfl | rfl
    · simp at hl
    · simp at hl
    all_goals
      simp [someF, goodN, leadF, gt, marks, sizes, froms, tos, tailOk, loA, hiA, okB, lo2, hi2]
      omega
  | [x, y, z, u], _ =>
    have bx := hb x (by simp)
    have by_ := hb y (by simp)
    have bz := hb z (by simp)
    have bu := hb u (by simp)
    rw [Bool.eq_iff_iff]
    rcases hn' with rfl | rfl | rfl | rfl
    · simp at hl
    · simp at hl
    · simp at hl
    all_goals
      simp [someF, goodN, leadF, gt, marks, sizes, froms, tos, tailOk, loA, hiA, okB, lo2, hi2]
      omega
  | _ :: _ :: _ :: _ :: _ :: r, _ => simp at hl; omega

theorem lead_cases (x : Int) : leadF x = 0 ∨ leadF x = 1 ∨ leadF x = 2 ∨ leadF x = 3 ∨ leadF x = 4 := by
  unfold leadF
  split
  · simp
  · split
    · simp
    · split
      · simp
      · split <;> simp
theorem begins_eq {t : List Int} (hb : ∀ x ∈ t, BU8 x) (h1 : 1 ≤ t.length) : beginsF t = if (t.length : Int) ≤ leadF (gt t 0) ∧ goodN t t.length = true then leadF (gt t 0) else 0 := by
  have e (n : Int) (hn : 1 ≤ n ∧ n ≤ 4) (hl : (t.length : Int) ≤ n) := some_eq hb h1 hn hl
  have hc (n : Nat) (hn : 1 ≤ n ∧ n ≤ 4) : (1 ≤ t.length ∧ t.length ≤ n ∧ someF t n = true) ↔ ((t.length : Int) ≤ leadF (gt t 0) ∧ goodN t t.length = true ∧ leadF (gt t 0) = n) := by
    constructor
    · rintro ⟨g1, g2, g3⟩
      rw [e n (by omega) (by omega)] at g3
      simp at g3
      exact ⟨by omega, g3.2, g3.1⟩
    · rintro ⟨g1, g2, g3⟩
      refine ⟨h1, by omega, ?_⟩
      rw [e n (by omega) (by omega)]
      simp [g3, g2]
  have hc1 : (1 ≤ t.length ∧ t.length ≤ 1 ∧ someF t 1 = true) ↔ ((t.length : Int) ≤ leadF (gt t 0) ∧ goodN t t.length = true ∧ leadF (gt t 0) = 1) := hc 1 (by omega)
  have hc2 : (1 ≤ t.length ∧ t.length ≤ 2 ∧ someF t 2 = true) ↔ ((t.length : Int) ≤ leadF (gt t 0) ∧ goodN t t.length = true ∧ leadF (gt t 0) = 2) := hc 2 (by omega)
  have hc3 : (1 ≤ t.length ∧ t.length ≤ 3 ∧ someF t 3 = true) ↔ ((t.length : Int) ≤ leadF (gt t 0) ∧ goodN t t.length = true ∧ leadF (gt t 0) = 3) := hc 3 (by omega)
  have hc4 : (1 ≤ t.length ∧ t.length ≤ 4 ∧ someF t 4 = true) ↔ ((t.length : Int) ≤ leadF (gt t 0) ∧ goodN t t.length = true ∧ leadF (gt t 0) = 4) := hc 4 (by omega)
  unfold beginsF
  by_cases k1 : 1 ≤ t.length ∧ t.length ≤ 1 ∧ someF t 1 = true
  · rw [if_pos k1]; obtain ⟨a, b, c⟩ := hc1.1 k1; rw [if_pos ⟨a, b⟩]; omega
  · rw [if_neg k1]
    by_cases k2 : 1 ≤ t.length ∧ t.length ≤ 2 ∧ someF t 2 = true
    · rw [if_pos k2]; obtain ⟨a, b, c⟩ := hc2.1 k2; rw [if_pos ⟨a, b⟩]; omega
    · rw [if_neg k2]
      by_cases k3 : 1 ≤ t.length ∧ t.length ≤ 3 ∧ someF t 3 = true
      · rw [if_pos k3]; obtain ⟨a, b, c⟩ := hc3.1 k3; rw [if_pos ⟨a, b⟩]; omega
      · rw [if_neg k3]
        by_cases k4 : 1 ≤ t.length ∧ t.length ≤ 4 ∧ someF t 4 = true
        · rw [if_pos k4]; obtain ⟨a, b, c⟩ := hc4.1 k4; rw [if_pos ⟨a, b⟩]; omega
        · rw [if_neg k4]
          by_cases k : (t.length : Int) ≤ leadF (gt t 0) ∧ goodN t t.length = true
          · exfalso
            rcases lead_cases (gt t 0) with h | h | h | h | h
            · omega
            · exact k1 (hc1.2 ⟨k.1, k.2, h⟩)
            · exact k2 (hc2.2 ⟨k.1, k.2, h⟩)
            · exact k3 (hc3.2 ⟨k.1, k.2, h⟩)
            · exact k4 (hc4.2 ⟨k.1, k.2, h⟩)
          · rw [if_neg k]
theorem good_take (s : List Int) (j : Nat) : ∀ c, c ≤ j → goodN (s.take j) c = goodN s c
  | 0, _ => rfl
  | 1, _ => rfl
  | c + 2, h => by
    simp only [goodN, good_take s j (c + 1) (by omega)]
    rw [gt_take (by omega) (by omega), gt_take (by omega) (by omega)]
theorem tailN_le (x : Int) : ∀ (i m : Nat) (r : List Int), tailN x i m r ≤ m ∧ tailN x i m r ≤ r.length
  | _, 0, _ => by simp [tailN]
  | _, _ + 1, [] => by simp [tailN]
  | i, m + 1, y :: r => by
    have := tailN_le x (i + 1) m r
    simp only [tailN, List.length_cons]
    split <;> omega
theorem tailN_good (s : List Int) : ∀ (m i : Nat) (r : List Int), s.drop i = r → 1 ≤ i → goodN s i = true → ∀ c, c ≤ m → c ≤ r.length → (c ≤ tailN (gt s 0) i m r ↔ goodN s (i + c) = true)
  | 0, i, r, _, _, hg, c, hc, _ => by
    have : c = 0 := by omega
    subst this; simp [hg]
  | m + 1, i, [], _, _, hg, c, _, hc => by
    have : c = 0 := by simpa using hc
    subst this; simp [hg]
  | m + 1, i, y :: r, hr, hi, hg, c, hc, hl => by
    have hy : gt s (i : Int) = y := by
      have : i < s.length := by
        have := congrArg List.length hr
        rw [List.length_drop, List.length_cons] at this; omega
      rw [gt_lt this]
      have h2 := List.drop_eq_getElem_cons this
      rw [hr] at h2
      exact (List.cons.inj h2).1.symm
    have hr2 : s.drop (i + 1) = r := by rw [← List.drop_drop, hr]; rfl
    have hstep : goodN s (i + 1) = okB (gt s 0) i y := by
      obtain ⟨j, rfl⟩ : ∃ j, i = j + 1 := ⟨i - 1, by omega⟩
      simp only [goodN, hg, Bool.true_and]
      rw [← hy]; congr 1
    simp only [tailN]
    cases c with
    | zero => simp [hg]
    | succ c =>
      by_cases ho : okB (gt s 0) i y = true
      · rw [if_pos ho]
        have ih := tailN_good s m (i + 1) r hr2 (by omega) (hstep.trans ho) c (by omega) (by simp at hl; omega)
        rw [show i + (c + 1) = i + 1 + c by omega, ← ih]
        omega
      · rw [if_neg ho]
        have : ∀ d, goodN s (i + 1 + d) = false := by
          intro d
          induction d with
          | zero => rw [Nat.add_zero, hstep]; simpa using ho
          | succ d ih =>
            obtain ⟨j, hj⟩ : ∃ j, i + 1 + d = j + 1 := ⟨i + d, by omega⟩
            rw [← Nat.add_assoc, hj]
            simp only [goodN]
            rw [← hj, ih, Bool.false_and]
        rw [show i + (c + 1) = i + 1 + c by omega, this c]
        simp
theorem reach_le (s : List Int) (hs : s ≠ []) : reachF s ≤ s.length ∧ (reachF s : Int) ≤ leadF (gt s 0) ∧ (0 < leadF (gt s 0) → 1 ≤ reachF s) := by
  have hl := List.length_pos_iff.2 hs
  have := lead_cases (gt s 0)
  unfold reachF
  split
  · omega
  · have := tailN_le (gt s 0) 1 ((leadF (gt s 0)).toNat - 1) (s.drop 1)
    rw [List.length_drop] at this
    omega
theorem begins_take {s : List Int} (hb : ∀ x ∈ s, BU8 x) {j : Nat} (h1 : 1 ≤ j) (h2 : j ≤ s.length) : beginsF (s.take j) = if j ≤ reachF s then leadF (gt s 0) else 0 := by
  have hlen : (s.take j).length = j := by rw [List.length_take]; omega
  rw [begins_eq (fun x hx => hb x (List.mem_of_mem_take hx)) (by omega), hlen, gt_take (by omega) (by omega), good_take s j j (Nat.le_refl _)]
  have hc := lead_cases (gt s 0)
  by_cases hn : leadF (gt s 0) < 2
  · have e : reachF s = (leadF (gt s 0)).toNat := by unfold reachF; rw [if_pos hn]
    rw [e]
    by_cases hj : (j : Int) ≤ leadF (gt s 0)
    · have : j = 1 := by omega
      subst this
      rw [if_pos ⟨hj, rfl⟩, if_pos (by omega)]
    · rw [if_neg (fun h => hj h.1), if_neg (by omega)]
  · have e : reachF s = 1 + tailN (gt s 0) 1 ((leadF (gt s 0)).toNat - 1) (s.drop 1) := by unfold reachF; rw [if_neg hn]
    have tl := tailN_le (gt s 0) 1 ((leadF (gt s 0)).toNat - 1) (s.drop 1)
    by_cases hj : (j : Int) ≤ leadF (gt s 0)
    · have g := tailN_good s ((leadF (gt s 0)).toNat - 1) 1 (s.drop 1) rfl (Nat.le_refl _) rfl (j - 1) (by omega) (by rw [List.length_drop]; omega)
      rw [show 1 + (j - 1) = j by omega] at g
      by_cases hg : goodN s j = true
      · rw [if_pos ⟨hj, hg⟩, if_pos (by have := g.2 hg; omega)]
      · rw [if_neg (fun h => hg h.2), if_neg (fun h => hg (g.1 (by omega)))]
    · rw [if_neg (fun h => hj h.1), if_neg (by omega)]

/-- What is told of the first bytes, so long as they are the beginning of one form. -/
theorem feed_pre {s : List Int} (hb : ∀ x ∈ s, BU8 x) : ∀ j, j ≤ reachF s → j ≤ s.length → (j : Int) < leadF (gt s 0) → feedF [] (s.take j) = ([], s.take j)
  | 0, _, _, _ => by simp [feedF]
  | j + 1, h1, h2, h3 => by
    have ih := feed_pre hb j (by omega) (by omega) (by omega)
    rw [take_snoc (by omega), feedF_append, ih]
    have e := begins_take hb (j := j + 1) (by omega) h2
    rw [if_pos h1, take_snoc (by omega)] at e
    have hl : (s.take j ++ [gt s (j : Int)]).length = j + 1 := by simp; omega
    simp only [feedF, stepF]
    rw [if_pos (by rw [e, hl]; exact_mod_cast h3)]
    rfl
theorem feed_whole {s : List Int} (hb : ∀ x ∈ s, BU8 x) {j : Nat} (h0 : 1 ≤ j) (h1 : j ≤ reachF s) (h2 : j ≤ s.length) (h3 : (j : Int) = leadF (gt s 0)) : feedF [] (s.take j) = ([wholeF (s.take j)], []) := by
  obtain ⟨i, rfl⟩ : ∃ i, j = i + 1 := ⟨j - 1, by omega⟩
  have ih := feed_pre hb i (by omega) (by omega) (by omega)
  rw [take_snoc (by omega), feedF_append, ih]
  have e := begins_take hb (j := i + 1) (by omega) h2
  rw [if_pos h1, take_snoc (by omega)] at e
  have hl : (s.take i ++ [gt s (i : Int)]).length = i + 1 := by simp; omega
  simp only [feedF, stepF]
  rw [if_neg (by rw [e, hl]; omega), if_pos (by rw [e]; omega)]
  rfl
end Go.Proofs
