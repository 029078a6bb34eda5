import Derived.Test.YtpnbdejdkllflaaP5
set_option linter.unusedVariables false
namespace Go.Proofs
open Go.Lx Try

/-- The stretches that have one value. -/
def flv (T : List Sp) (k : Int) : List (Int × Int) := (T.filter fun s => decide (s.val = k)).map fun s => (s.lo, s.hi)
theorem flv_cons (s : Sp) (r : List Sp) (k : Int) : flv (s :: r) k = if s.val = k then (s.lo, s.hi) :: flv r k else flv r k := by
  unfold flv
  by_cases h : s.val = k
  · simp [h]
  · simp [h]
theorem in_flv {k : Int} (hk : 1 ≤ k) (n : Int) : ∀ {T : List Sp} {last : Int}, rgt last T = true → inL (flv T k) n = decide (sfind T n 0 = k)
  | [], _, _ => by
    show false = _
    exact (decide_eq_false (by rw [sfind_nil]; omega)).symm
  | s :: r, last, h => by
    rw [rgt_cons] at h
    have ih := in_flv hk n h.2
    rw [flv_cons, sfind_cons]
    by_cases h1 : n ≤ s.hi
    · rw [if_pos h1]
      rw [sfind_low h.2 h1] at ih
      have ih : inL (flv r k) n = false := by rw [ih]; exact decide_eq_false (by omega)
      by_cases h2 : s.val = k
      · rw [if_pos h2]
        show ((decide (s.lo ≤ n) && decide (n ≤ s.hi)) || inL (flv r k) n) = _
        rw [ih]
        by_cases h3 : s.lo ≤ n
        · simp [h1, h2, h3]
        · rw [if_neg h3]; simp [h3]; omega
      · rw [if_neg h2, ih]
        by_cases h3 : s.lo ≤ n
        · rw [if_pos h3]; exact (decide_eq_false h2).symm
        · rw [if_neg h3]; exact (decide_eq_false (by omega)).symm
    · rw [if_neg h1, ← ih]
      by_cases h2 : s.val = k
      · rw [if_pos h2]
        show ((decide (s.lo ≤ n) && decide (n ≤ s.hi)) || inL (flv r k) n) = _
        simp [h1]
      · rw [if_neg h2]
theorem find_val {P : Int → Prop} {T : List Sp} {n : Int} (h : ∀ s ∈ T, P s.val) (h0 : P 0) : P (sfind T n 0) := by
  unfold sfind
  split
  · rename_i s hs
    split
    · exact h s (List.mem_of_find?_eq_some hs)
    · exact h0
  · exact h0

def T37s : List Sp := T37.map p37
/-- What the tables tell of a number, as a code. -/
def tv (n : Int) : Int := sfind T35 n 0 + sfind T37s n 0 * 16 + sfind T38 n 0 * 32 + sfind T39 n 0 * 128
theorem r35 : rgt (-1) T35 = true := by decide +kernel
theorem r37 : rgt (-1) T37s = true := by decide +kernel
theorem r38 : rgt (-1) T38 = true := by decide +kernel
theorem r39 : rgt (-1) T39 = true := by decide +kernel
theorem v35 : T35.all (fun s => decide (1 ≤ s.val) && decide (s.val ≤ 8)) = true := by decide +kernel
theorem v38 : T38.all (fun s => decide (1 ≤ s.val) && decide (s.val ≤ 3)) = true := by decide +kernel
theorem v39 : T39.all (fun s => decide (1 ≤ s.val) && decide (s.val ≤ 3)) = true := by decide +kernel
theorem all_bd {T : List Sp} {a b : Int} (h : T.all (fun s => decide (a ≤ s.val) && decide (s.val ≤ b)) = true) : ∀ s ∈ T, a ≤ s.val ∧ s.val ≤ b := fun s hs => by
  have := List.all_eq_true.1 h s hs
  simpa using this
theorem v37 : ∀ s ∈ T37s, s.val = 1 := fun s hs => by
  unfold T37s at hs
  obtain ⟨a, _, rfl⟩ := List.mem_map.1 hs
  rfl
theorem b35 (n : Int) : 0 ≤ sfind T35 n 0 ∧ sfind T35 n 0 ≤ 8 := find_val (P := fun v => 0 ≤ v ∧ v ≤ 8) (fun s hs => by have := all_bd v35 s hs; omega) (by decide)
theorem b37 (n : Int) : 0 ≤ sfind T37s n 0 ∧ sfind T37s n 0 ≤ 1 := find_val (P := fun v => 0 ≤ v ∧ v ≤ 1) (fun s hs => by have := v37 s hs; omega) (by decide)
theorem b38 (n : Int) : 0 ≤ sfind T38 n 0 ∧ sfind T38 n 0 ≤ 3 := find_val (P := fun v => 0 ≤ v ∧ v ≤ 3) (fun s hs => by have := all_bd v38 s hs; omega) (by decide)
theorem b39 (n : Int) : 0 ≤ sfind T39 n 0 ∧ sfind T39 n 0 ≤ 3 := find_val (P := fun v => 0 ≤ v ∧ v ≤ 3) (fun s hs => by have := all_bd v39 s hs; omega) (by decide)

theorem f35 : L1 = flv T35 1 ∧ L2 = flv T35 2 ∧ L3 = flv T35 3 ∧ L4 = flv T35 4 ∧ L5 = flv T35 5 ∧ L6 = flv T35 6 ∧ L7 = flv T35 7 ∧ L8 = flv T35 8 := by decide +kernel
theorem f38 : LC1 = flv T38 1 ∧ LC2 = flv T38 2 ∧ LC3 = flv T38 3 := by decide +kernel
theorem f39 : LE1 = flv T39 1 ∧ LE2 = flv T39 2 ∧ LE3 = flv T39 3 := by decide +kernel
theorem f37 : LP = flv T37s 1 := by decide +kernel
theorem i35 (n : Int) : idx [L1, L2, L3, L4, L5, L6, L7, L8] n 0 = sfind T35 n 0 := by
  obtain ⟨e1, e2, e3, e4, e5, e6, e7, e8⟩ := f35
  rw [e1, e2, e3, e4, e5, e6, e7, e8]
  simp only [idx, in_flv (show (1 : Int) ≤ 1 by decide) n r35, in_flv (show (1 : Int) ≤ 2 by decide) n r35, in_flv (show (1 : Int) ≤ 3 by decide) n r35, in_flv (show (1 : Int) ≤ 4 by decide) n r35, in_flv (show (1 : Int) ≤ 5 by decide) n r35,
    in_flv (show (1 : Int) ≤ 6 by decide) n r35, in_flv (show (1 : Int) ≤ 7 by decide) n r35, in_flv (show (1 : Int) ≤ 8 by decide) n r35, decide_eq_true_eq]
  have := b35 n
  repeat' split
  all_goals omega
theorem i38 (n : Int) : idx [LC1, LC2, LC3] n 0 = sfind T38 n 0 := by
  obtain ⟨e1, e2, e3⟩ := f38
  rw [e1, e2, e3]
  simp only [idx, in_flv (show (1 : Int) ≤ 1 by decide) n r38, in_flv (show (1 : Int) ≤ 2 by decide) n r38, in_flv (show (1 : Int) ≤ 3 by decide) n r38, decide_eq_true_eq]
  have := b38 n
  repeat' split
  all_goals omega
theorem i39 (n : Int) : idx [LE1, LE2, LE3] n 0 = sfind T39 n 0 := by
  obtain ⟨e1, e2, e3⟩ := f39
  rw [e1, e2, e3]
  simp only [idx, in_flv (show (1 : Int) ≤ 1 by decide) n r39, in_flv (show (1 : Int) ≤ 2 by decide) n r39, in_flv (show (1 : Int) ≤ 3 by decide) n r39, decide_eq_true_eq]
  have := b39 n
  repeat' split
  all_goals omega
theorem i37 (n : Int) : inL LP n = decide (sfind T37s n 0 = 1) := by
  rw [f37]; exact in_flv (by decide) n r37
/-- No table's stretch lies where the syllables are. -/
def offB (s : Sp) : Bool := decide (s.hi < 4352) || (decide (4608 ≤ s.lo) && decide (s.hi < 43360)) || (decide (43389 ≤ s.lo) && decide (s.hi < 44032)) || decide (55292 ≤ s.lo)
theorem o35 : T35.all offB = true := by decide +kernel
theorem zone_off {n : Int} (h : sfind T35 n 0 ≠ 0) : classF n = 0 := by
  unfold sfind at h
  split at h
  · rename_i s hs
    have h1 := List.all_eq_true.1 o35 s (List.mem_of_find?_eq_some hs)
    have h2 := List.find?_some hs
    split at h
    · refine class_out ?_
      simp only [offB, Bool.or_eq_true, Bool.and_eq_true, decide_eq_true_eq] at h1 h2
      omega
    · exact absurd rfl h
  · exact absurd rfl h
theorem ref_eq (n : Int) : propF (tv n + classF n) = refF n := by
  have h1 := b35 n
  have h2 := b37 n
  have h3 := b38 n
  have h4 := b39 n
  have h5 := classF_bd n
  have h6 : sfind T35 n 0 = 0 ∨ classF n = 0 := by
    by_cases h : sfind T35 n 0 = 0
    · exact .inl h
    · exact .inr (zone_off h)
  have e : tv n + classF n = (sfind T35 n 0 + classF n) + sfind T37s n 0 * 16 + sfind T38 n 0 * 32 + sfind T39 n 0 * 128 := by unfold tv; omega
  rw [e]
  unfold propF refF
  rw [i35, i37, i38, i39]
  generalize sfind T35 n 0 = t at *
  generalize sfind T37s n 0 = p at *
  generalize sfind T38 n 0 = c at *
  generalize sfind T39 n 0 = ea at *
  generalize classF n = k at *
  rw [if_neg (by omega)]
  congr 1
  · split <;> omega
  · congr 1
    exact propext ⟨fun h => by omega, fun h => by omega⟩
  · split <;> omega
  · split <;> omega
end Go.Proofs
