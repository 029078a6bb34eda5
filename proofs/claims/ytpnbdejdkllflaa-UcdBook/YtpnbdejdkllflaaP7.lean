import Derived.Test.YtpnbdejdkllflaaP6
set_option linter.unusedVariables false
namespace Go.Proofs
open Go.Lx Try

theorem nodup_len {α : Type} [DecidableEq α] : ∀ (l m : List α), l.Nodup → (∀ x ∈ l, x ∈ m) → l.length ≤ m.length
  | [], m, _, _ => Nat.zero_le _
  | x :: r, m, h, hm => by
    rw [List.nodup_cons] at h
    have hx := hm x List.mem_cons_self
    have ih := nodup_len r (m.erase x) h.2 fun y hy => by
      have hne : y ≠ x := fun e => h.1 (e ▸ hy)
      exact (List.mem_erase_of_ne hne).2 (hm y (List.mem_cons_of_mem _ hy))
    rw [List.length_erase_of_mem hx] at ih
    have := List.length_pos_of_mem hx
    simp only [List.length_cons]; omega
theorem nodup_of_map {α β : Type} (f : α → β) : ∀ (l : List α), (l.map f).Nodup → l.Nodup
  | [], _ => List.nodup_nil
  | x :: r, h => by
    rw [List.map_cons, List.nodup_cons] at h
    exact List.nodup_cons.2 ⟨fun hx => h.1 (List.mem_map.2 ⟨x, hx, rfl⟩), nodup_of_map f r h.2⟩
theorem max_of : ∀ (l : List Int), l ≠ [] → ∃ m ∈ l, ∀ x ∈ l, x ≤ m
  | [], h => absurd rfl h
  | [a], _ => ⟨a, List.mem_cons_self, fun x hx => by simp at hx; omega⟩
  | a :: b :: r, _ => by
    obtain ⟨m, hm, hx⟩ := max_of (b :: r) (by simp)
    by_cases h : a ≤ m
    · exact ⟨m, List.mem_cons_of_mem _ hm, fun x hx' => by rcases List.mem_cons.1 hx' with rfl | h'; exact h; exact hx x h'⟩
    · exact ⟨a, List.mem_cons_self, fun x hx' => by rcases List.mem_cons.1 hx' with rfl | h'; omega; have := hx x h'; omega⟩

def edgA : List Int := edg T35 ++ edg T37s ++ edg T38 ++ edg T39
/-- Pages within which some value may turn; those of the syllables; the values that tables tell. -/
def U1 : List Int := [0, 3, 4, 5, 6, 7, 8, 9, 10, 11, 12, 13, 14, 15, 16, 19, 24, 26, 29, 32, 48, 166, 251, 254, 255, 272, 497, 499, 3584, 3585, 33, 35, 36, 37, 38, 39, 41, 43, 50, 498, 501, 502, 503, 504, 505, 511, 17, 46, 47, 49, 77, 164, 169, 215, 367, 391, 396, 433, 496, 500, 506, 767, 1023]
def U2 : List Int := (List.range 44).map fun i : Nat => 172 + (i : Int)
def V1 : List Int := [3, 2, 1, 0, 16, 100, 4, 7, 8, 68, 32, 101, 228, 144, 128, 6, 132, 384, 256]
theorem u1_all : edgA.all (fun e => decide (e % 256 = 0) || U1.contains (e / 256)) = true := by decide +kernel
theorem v1_all : edgA.all (fun e => V1.contains (tv e)) = true := by decide +kernel

theorem edg_lo {T : List Sp} {s : Sp} (hs : s ∈ T) : s.lo ∈ edg T ∧ s.hi + 1 ∈ edg T := by
  unfold edg
  simp only [List.mem_flatMap]
  exact ⟨⟨s, hs, by simp⟩, ⟨s, hs, by simp⟩⟩
theorem eA {T : List Sp} (h : T = T35 ∨ T = T37s ∨ T = T38 ∨ T = T39) {s : Sp} (hs : s ∈ T) : s.lo ∈ edgA ∧ s.hi + 1 ∈ edgA := by
  have := edg_lo hs
  unfold edgA
  simp only [List.mem_append]
  rcases h with rfl | rfl | rfl | rfl
  · exact ⟨.inl (.inl (.inl this.1)), .inl (.inl (.inl this.2))⟩
  · exact ⟨.inl (.inl (.inr this.1)), .inl (.inl (.inr this.2))⟩
  · exact ⟨.inl (.inr this.1), .inl (.inr this.2)⟩
  · exact ⟨.inr this.1, .inr this.2⟩
/-- Where no edge lies between two numbers, the tables tell the same of both. -/
theorem tv_same {a n : Int} (han : a ≤ n) (h : ∀ e ∈ edgA, ¬ (a < e ∧ e ≤ n)) : tv n = tv a := by
  have key : ∀ T, T = T35 ∨ T = T37s ∨ T = T38 ∨ T = T39 → sfind T n 0 = sfind T a 0 := fun T hT => by
    refine sfind_same fun s hs => ?_
    have e := eA hT hs
    have h1 := h _ e.1
    have h2 := h _ e.2
    omega
  unfold tv
  rw [key T35 (.inl rfl), key T37s (.inr (.inl rfl)), key T38 (.inr (.inr (.inl rfl))), key T39 (.inr (.inr (.inr rfl)))]
theorem tv_low {n : Int} (h : ∀ e ∈ edgA, n < e) : tv n = 0 := by
  have key : ∀ T, T = T35 ∨ T = T37s ∨ T = T38 ∨ T = T39 → sfind T n 0 = 0 := fun T hT => by
    have : ∀ l : List Sp, (∀ s ∈ l, n < s.lo ∧ n < s.hi + 1) → sfind l n 0 = 0 := by
      intro l
      cases l with
      | nil => intro _; rfl
      | cons s r => intro h; have := h s List.mem_cons_self; rw [sfind_cons, if_pos (by omega), if_neg (by omega)]
    exact this T fun s hs => ⟨h _ (eA hT hs).1, h _ (eA hT hs).2⟩
  unfold tv
  rw [key T35 (.inl rfl), key T37s (.inr (.inl rfl)), key T38 (.inr (.inr (.inl rfl))), key T39 (.inr (.inr (.inr rfl)))]
  rfl
theorem tv_mem (n : Int) : tv n ∈ V1 := by
  by_cases h : (edgA.filter fun e => decide (e ≤ n)) = []
  · rw [tv_low fun e he => ?_]
    · decide
    · have := List.filter_eq_nil_iff.1 h e he
      simp at this; omega
  · obtain ⟨m, hm, hx⟩ := max_of _ h
    simp only [List.mem_filter, decide_eq_true_eq] at hm hx
    rw [tv_same (a := m) hm.2 fun e he hc => by have := hx e ⟨he, hc.2⟩; omega]
    have := List.all_eq_true.1 v1_all m hm.1
    simpa using this

section
variable {M : List Sp} (hv : ∀ n, sfind M n 0 = tv n + classF n)
include hv
theorem page_even {q : Int} (h1 : q ∉ U1) (h2 : q ∉ U2) : page M (q * 256) = List.replicate 256 (tv (q * 256)) := by
  refine page_const fun n ha hb => ?_
  rw [hv]
  have h3 : ¬ (172 ≤ q ∧ q ≤ 215) := fun hc => h2 (by
    unfold U2
    exact List.mem_map.2 ⟨(q - 172).toNat, List.mem_range.2 (by omega), by omega⟩)
  have h4 : q ≠ 17 := fun e => h1 (by rw [e]; decide)
  have h5 : q ≠ 169 := fun e => h1 (by rw [e]; decide)
  rw [class_out (by omega), tv_same ha fun e he hc => ?_]
  · omega
  · have := List.all_eq_true.1 u1_all e he
    simp only [Bool.or_eq_true, decide_eq_true_eq, List.contains_eq_mem] at this
    have hq : e / 256 = q := by omega
    rcases this with h | h
    · omega
    · exact h1 (hq ▸ h)
theorem few_blocks {l : List (List Int)} (hn : l.Nodup) (hs : ∀ x ∈ l, ∃ q : Nat, q < 4352 ∧ x = page M ((q : Int) * 256)) : l.length ≤ 126 := by
  have h := nodup_len l ((U1 ++ U2).map (fun q => page M (q * 256)) ++ V1.map (fun v => List.replicate 256 v)) hn fun x hx => by
    obtain ⟨q, hq, rfl⟩ := hs x hx
    by_cases h1 : (q : Int) ∈ U1
    · exact List.mem_append_left _ (List.mem_map.2 ⟨q, List.mem_append_left _ h1, rfl⟩)
    · by_cases h2 : (q : Int) ∈ U2
      · exact List.mem_append_left _ (List.mem_map.2 ⟨q, List.mem_append_right _ h2, rfl⟩)
      · rw [page_even hv h1 h2]
        exact List.mem_append_right _ (List.mem_map.2 ⟨tv ((q : Int) * 256), tv_mem _, rfl⟩)
  have e : ((U1 ++ U2).map (fun q => page M (q * 256)) ++ V1.map (fun v => List.replicate 256 v)).length = 126 := by
    rw [List.length_append, List.length_map, List.length_map]; decide
  omega
end
def W1 : List Int := [0, 1, 3, 5, 6, 7, 8, 9, 10, 11, 12, 13, 16, 17, 26, 29, 32, 33, 35, 38]
def O1 : List Nat := [0, 10, 40, 60, 90, 130, 170, 200, 230]
theorem w1_nd : (W1.map fun q => O1.map fun o : Nat => tv (q * 256 + (o : Int)) + classF (q * 256 + (o : Int))).Nodup := by decide +kernel
theorem many_blocks {M : List Sp} (hv : ∀ n, sfind M n 0 = tv n + classF n) {l : List (List Int)} (hs : ∀ q : Nat, q < 4352 → page M ((q : Int) * 256) ∈ l) : 20 ≤ l.length := by
  have e : (W1.map fun q => page M (q * 256)).map (fun x => O1.map fun o => x.getD o 0) = W1.map fun q => O1.map fun o : Nat => tv (q * 256 + (o : Int)) + classF (q * 256 + (o : Int)) := by
    rw [List.map_map]
    refine List.map_congr_left fun q _ => ?_
    refine List.map_congr_left fun o ho => ?_
    have ho' : o < 256 := by
      have : ∀ o ∈ O1, o < 256 := by decide
      exact this o ho
    show (page M (q * 256)).getD o 0 = _
    unfold page
    rw [List.getD_eq_getElem?_getD, List.getElem?_map, List.getElem?_range ho']
    exact hv _
  have hn : (W1.map fun q => page M (q * 256)).Nodup := nodup_of_map (fun x : List Int => O1.map fun o => x.getD o 0) _ (by rw [e]; exact w1_nd)
  have h := nodup_len _ l hn fun x hx => by
    obtain ⟨q, hq, rfl⟩ := List.mem_map.1 hx
    have hb : ∀ q ∈ W1, 0 ≤ q ∧ q < 4352 := by decide
    have := hb q hq
    have h2 := hs q.toNat (by omega)
    rw [show ((q.toNat : Nat) : Int) = q by omega] at h2
    exact h2
  have e2 : (W1.map fun q => page M (q * 256)).length = 20 := by rw [List.length_map]; rfl
  omega
end Go.Proofs
