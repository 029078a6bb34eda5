import Derived.Test.YtpnbdejdkllflaaU9
set_option linter.unusedVariables false
namespace Go.Proofs
open Go.Lx Try

/-- Values times a number. -/
def mulS (n : Int) (s : Sp) : Sp := ⟨s.lo, s.hi, s.val * n⟩
def mapTo (n : Int) (l : List Sp) (i : Nat) : List Sp := (l.take i).map (mulS n) ++ l.drop i
theorem mapTo_len (n : Int) (l : List Sp) (i : Nat) (hi : i ≤ l.length) : (mapTo n l i).length = l.length := by simp [mapTo]; omega
theorem mapTo_get (n : Int) (l : List Sp) (i : Nat) (hi : i < l.length) : (mapTo n l i)[i]? = some l[i] := by
  unfold mapTo
  rw [List.getElem?_append_right (by simp; omega)]
  simp
  rw [Nat.min_eq_left (by omega)]
  simp [hi]
theorem mapTo_set (n : Int) (l : List Sp) (i : Nat) (hi : i < l.length) : (mapTo n l i).set i (mulS n l[i]) = mapTo n l (i + 1) := by
  unfold mapTo
  rw [List.set_append_right _ _ (by simp; omega)]
  have e : l.drop i = l[i] :: l.drop (i + 1) := by simp
  have e2 : l.take (i + 1) = l.take i ++ [l[i]] := by simp
  rw [e, e2]
  have e3 : i - ((l.take i).map (mulS n)).length = 0 := by simp; omega
  rw [e3, List.map_append, List.append_assoc]
  rfl

theorem c14 (B : Nat) (a : Option Addr) (cap : Nat) (l : List Sp) (n : Int) (h : Hp) (ow : Ow B 52 3 eSp h a cap l) (hn : 0 ≤ n ∧ n ≤ 1000) (hv : ∀ s ∈ l, 0 ≤ s.val ∧ s.val ≤ 65535) (hlen : l.length ≤ 100000000) :
    C prog 14 [.slice a l.length cap, .int .i64 n] h fun v h' => v = .slice a (l.map (mulS n)).length cap ∧ Ow B 52 3 eSp h' a cap (l.map (mulS n)) ∧ Kp (At a) h h' := by
  refine enter func14 rfl ntmps14 results14 rfl rfl ?_
  refine x_seq ?_
  refine x_region ?_
  refine r1 rfl (p_as rfl) ?_
  refine o_nil ?_
  refine x_seq ?_
  refine x_seq ?_
  refine x_region ?_
  refine r1 rfl (p_mv rfl) ?_
  refine r1 rfl (p_len runUnderlying33 rfl) ?_
  refine r1 rfl (p_mv rfl) ?_
  refine o_nil ?_
  refine x_block ?_
  refine x_loope (σ := Nat) (fun i E0 => (8, .int .i64 (i : Int)) :: E0) [(0, _), (1, _), (7, _)] (fun i h' => Kp (At a) h h' ∧ i ≤ l.length ∧ Ow B 52 3 eSp h' a cap (mapTo n l i)) (fun i => l.length - i) (0) ⟨rfl, rfl, rfl, rfl, trivial⟩ ?_ ?_
  · exact ⟨Kp.refl _ _, by omega, by simpa [mapTo] using ow⟩
  rintro i h' ⟨xk, hi, ow⟩
  show X _ _ _ ((8, .int .i64 (i : Int)) :: _) _ _
  refine x_seq ?_
  refine x_region ?_
  refine r1 rfl (p_lss rfl rfl) ?_
  refine o_nil ?_
  refine x_seq ?_
  refine x_cond rfl (fun hc => ?_) (fun hc => ?_)
  · skip
    have hlt : i < l.length := by have := of_decide_eq_true hc; omega
    have hl := ow.rd leneSp
    have hx := mapTo_get n l i hlt
    have hvi := hv l[i] (List.getElem_mem hlt)
    have hml := mapTo_len n l i hi
    have hb : 0 ≤ l[i].val * n ∧ l[i].val * n ≤ 65535 * 1000 := ⟨Int.mul_nonneg hvi.1 hn.1, by
      have h1 : l[i].val * n ≤ 65535 * n := Int.mul_le_mul_of_nonneg_right hvi.2 hn.1
      have h2 : (65535 : Int) * n ≤ 65535 * 1000 := by omega
      omega⟩
    have hge : (mapTo n l i)[i]'(by omega) = l[i] := by
      have : (mapTo n l i)[i]? = some ((mapTo n l i)[i]'(by omega)) := by simp
      rw [hx] at this; exact (Option.some.inj this).symm
    refine x_skip ?_
    refine x_seq ?_
    refine x_block ?_
    refine x_seq ?_
    refine x_region ?_
    refine r1 rfl (p_mv rfl) ?_
    refine r1 rfl (p_as rfl) ?_
    refine o_nil ?_
    refine x_region ?_
    refine r1 rfl (p_mv rfl) ?_
    refine r1 rfl (p_mv rfl) ?_
    refine r1 rfl (p_idx runUnderlying33 sizeOf52 rfl rfl (by omega) (hl.is' (i := i) (by omega))) ?_
    refine r1 rfl (p_fld runUnderlying52 rfl sizeOf3 (by decide) rfl rfl) ?_
    refine r1 rfl (p_ld isAgg3 rfl (hl.cel _ _ hx 2 _ rfl)) ?_
    refine r1 rfl (p_mv rfl) ?_
    refine r1 rfl (p_mul64 rfl rfl (by omega)) ?_
    refine r1 rfl (p_idx runUnderlying33 sizeOf52 rfl rfl (by omega) (hl.is' (i := i) (by omega))) ?_
    refine r1 rfl (p_fld runUnderlying52 rfl sizeOf3 (by decide) rfl rfl) ?_
    refine o0 (s_stow (i := i) (j := 2) sizeOf3 rfl rfl rfl ow (by omega) (by decide) (mulS n l[i]) (by rw [hge]; rfl) leneSp ?_)
    intro h9 w9 k9
    refine o_nil ?_
    refine x_region ?_
    refine r1 rfl (p_add64 rfl rfl (by omega)) ?_
    refine r1 rfl (p_mv rfl) ?_
    refine o_nil ?_
    rw [mapTo_set n l i hlt] at w9
    refine ⟨i + 1, ⟨rfl, rfl, rfl, rfl, trivial⟩, ?_, ?_⟩
    · exact ⟨xk.trans k9, by omega, w9⟩
    · omega
  · skip
    have hlt : i = l.length := by have := of_decide_eq_false hc; omega
    subst hlt
    refine x_exit ?_
    refine x_seq ?_
    refine x_region ?_
    refine r1 rfl (p_mv rfl) ?_
    refine r1 rfl (p_as rfl) ?_
    refine o_nil ?_
    refine x_ret (fin1 rfl ?_)
    have e : mapTo n l l.length = l.map (mulS n) := by simp [mapTo]
    rw [e] at ow
    exact ⟨by simp, ow, xk⟩

theorem c68 (a : Option Addr) (cap : Nat) (l : List Sp) (n : Int) (h : Hp) (hl : Rd 3 eSp h a l) (hu : Up l) (hlen : l.length ≤ 1000000000) :
    C prog 68 [.slice a l.length cap, .int .i64 n] h fun v h' => (∃ m, v = .int .i64 m ∧ Found l.length (fun i => decide (n ≤ (gt l i).hi)) m) ∧ Ext h h' := by
  refine enter func68 rfl ntmps68 results68 rfl rfl ?_
  refine x_seq ?_
  refine x_region ?_
  refine o1 rfl (s_box rfl rfl ?_)
  intro b2 hb2 n2
  have g2 : _ ≤ b2 := n2.ge (Ext.refl _)
  have nf_hl_2 := hl.nin n2
  have x0 := (n2.ext : Ext _ _)
  have hl := hl.lift (n2.ext)
  have l2 := n2.bl
  refine o1 rfl (s_box rfl rfl ?_)
  intro b3 hb3 n3
  have g3 : _ ≤ b3 := n3.ge x0
  have ne3_2 : b3 ≠ b2 := n3.ne l2
  have nf_hl_3 := hl.nin n3
  have x0 := x0.tr (n3.ext)
  have l2 := l2.lift (n3.ext)
  have hl := hl.lift (n3.ext)
  have l3 := n3.bl
  refine r1 rfl (p_as rfl) ?_
  refine o_nil ?_
  refine x_seq ?_
  refine x_region ?_
  refine r1 rfl (p_ld isAgg33 rfl (l2.get rfl)) ?_
  refine r1 rfl (p_len runUnderlying33 rfl) ?_
  refine r1 rfl (p_mf rfl rfl) ?_
  refine o1 rfl (s_call call61 rfl (c61 l.length (fun i => decide (n ≤ (gt l i).hi)) 76 [] _ _ (by omega) call76 (fun m h0 h1 h' x => c76 m n _ _ l _ _ _ _ _ (l2.lift x) (l3.lift x) (hl.lift x) h0 h1) (mono_of hu n)) ?_)
  rintro v1 hh1 ⟨⟨m, rfl, fm⟩, x1⟩
  have x0 := x0.tr (x1)
  have l2 := l2.lift (x1)
  have l3 := l3.lift (x1)
  have hl := hl.lift (x1)
  refine r1 rfl (p_as rfl) ?_
  refine o_nil ?_
  refine x_ret (fin1 rfl ?_)
  exact ⟨⟨m, rfl, fm⟩, x0⟩

theorem c33 (a : Option Addr) (cap : Nat) (l : List Sp) (n : Int) (h : Hp) (hl : Rd 3 eSp h a l) (hu : Up l) (hlen : l.length ≤ 1000000000) :
    C prog 33 [.slice a l.length cap, .int .i64 n] h fun v h' => v = .int .i64 (sfind l n 0) ∧ Ext h h' := by
  refine enter func33 rfl ntmps33 results33 rfl rfl ?_
  refine x_seq ?_
  refine x_region ?_
  refine r1 rfl (p_as rfl) ?_
  refine o_nil ?_
  refine x_seq ?_
  refine x_seq ?_
  refine x_region ?_
  refine r1 rfl (p_mv rfl) ?_
  refine r1 rfl (p_mv rfl) ?_
  refine o1 rfl (s_call call68 rfl (c68 _ _ _ _ _ hl hu hlen) ?_)
  rintro v1 hh1 ⟨⟨m, rfl, fm⟩, x1⟩
  have x0 := (x1 : Ext _ _)
  have hl := hl.lift (x1)
  refine r1 rfl (p_as rfl) ?_
  refine o_nil ?_
  refine x_seq ?_
  have hfind := found_find l (fun s => decide (n ≤ s.hi)) m fm
  have hm0 := fm.lo
  have hm1 := fm.hi
  refine x_region ?_
  refine r1 rfl (p_mv rfl) ?_
  refine r1 rfl (p_mv rfl) ?_
  refine r1 rfl (p_len runUnderlying33 rfl) ?_
  refine r1 rfl (p_lss rfl rfl) ?_
  refine r1 rfl (p_mv rfl) ?_
  apply o_and 8 (dj := 13) (d := 21) rfl
  · intro hg2_5
    refine r1h rfl rfl rfl hg2_5 (p_mv rfl) ?_
    refine r1h rfl rfl rfl hg2_5 (p_mv rfl) ?_
    refine r1h rfl rfl rfl hg2_5 (p_idx runUnderlying33 sizeOf52 rfl rfl ⟨hm0, of_decide_eq_true hg2_5⟩ (hl.isi hm0 (of_decide_eq_true hg2_5))) ?_
    refine r1h rfl rfl rfl hg2_5 (p_fld runUnderlying52 rfl sizeOf3 (by decide) rfl rfl) ?_
    refine r1h rfl rfl rfl hg2_5 (p_ld isAgg3 rfl (hl.ati hm0 (of_decide_eq_true hg2_5) (j := 0) rfl)) ?_
    refine r1h rfl rfl rfl hg2_5 (p_mv rfl) ?_
    refine r1h rfl rfl rfl hg2_5 (p_leq rfl rfl) ?_
    refine r1 rfl (p_pickt hg2_5 rfl rfl rfl) ?_
    exact o_nil ⟨rfl, rfl, by repeat (first | exact le_r _ | refine le_c rfl ?_)⟩
  · intro hg2_5
    refine o1n rfl rfl rfl hg2_5 ?_
    refine o1n rfl rfl rfl hg2_5 ?_
    refine o1n rfl rfl rfl hg2_5 ?_
    refine o1n rfl rfl rfl hg2_5 ?_
    refine o1n rfl rfl rfl hg2_5 ?_
    refine o1n rfl rfl rfl hg2_5 ?_
    refine o1n rfl rfl rfl hg2_5 ?_
    refine r1 rfl (p_pickf hg2_5 rfl rfl rfl) ?_
    exact o_nil ⟨rfl, rfl, by repeat (first | exact le_r _ | refine le_c rfl ?_)⟩
  refine o_nil ?_
  refine x_cond rfl (fun h1 => ?_) (fun h1 => ?_)
  · skip
    have h1' : m < l.length ∧ (gt l m).lo ≤ n := by simpa using h1
    rw [if_pos h1'.1] at hfind
    refine x_seq ?_
    refine x_region ?_
    refine r1 rfl (p_mv rfl) ?_
    refine r1 rfl (p_mv rfl) ?_
    refine r1 rfl (p_idx runUnderlying33 sizeOf52 rfl rfl ⟨hm0, h1'.1⟩ (hl.isi hm0 h1'.1)) ?_
    refine r1 rfl (p_fld runUnderlying52 rfl sizeOf3 (by decide) rfl rfl) ?_
    refine r1 rfl (p_ld isAgg3 rfl (hl.ati hm0 h1'.1 (j := 2) rfl)) ?_
    refine r1 rfl (p_as rfl) ?_
    refine o_nil ?_
    refine x_ret (fin1 rfl ?_)
    refine ⟨?_, x0⟩
    unfold sfind
    rw [hfind]
    simp only
    rw [if_pos h1'.2]
  · skip
    have h1' : ¬ (m < l.length ∧ (gt l m).lo ≤ n) := by simpa using h1
    refine x_skip ?_
    refine x_seq ?_
    refine x_region ?_
    refine r1 rfl (p_as rfl) ?_
    refine o_nil ?_
    refine x_ret (fin1 rfl ?_)
    refine ⟨?_, x0⟩
    unfold sfind
    rw [hfind]
    split
    · rename_i s hs
      split at hs
      · rename_i hlt
        cases hs
        rw [if_neg (fun hh => h1' ⟨hlt, hh⟩)]
      · cases hs
    · rfl

def lay2 (l : List Sp) (lo hi val : Int) : List Sp := if hi < lo then l else l ++ [⟨lo, hi, val⟩]
theorem c40 (B : Nat) (a : Option Addr) (cap : Nat) (l : List Sp) (lo hi val : Int) (h : Hp) (ow : Ow B 52 3 eSp h a cap l) (hB : B ≤ h.size) (hlen : l.length ≤ 900000000) :
    C prog 40 [.slice a l.length cap, .int .i64 lo, .int .i64 hi, .int .i64 val] h fun v h' => ∃ a' cap', v = .slice a' (lay2 l lo hi val).length cap' ∧ Ow B 52 3 eSp h' a' cap' (lay2 l lo hi val) ∧ Kp (At a) h h' ∧ (∀ b, b < h.size → At a' b → At a b) := by
  refine enter func40 rfl ntmps40 results40 rfl rfl ?_
  refine x_seq ?_
  refine x_region ?_
  refine r1 rfl (p_as rfl) ?_
  refine o_nil ?_
  refine x_seq ?_
  refine x_seq ?_
  refine x_region ?_
  refine r1 rfl (p_mv rfl) ?_
  refine r1 rfl (p_mv rfl) ?_
  refine r1 rfl (p_gtr rfl rfl) ?_
  refine o_nil ?_
  refine x_cond rfl (fun h1 => ?_) (fun h1 => ?_)
  · skip
    rw [lay2, if_pos (of_decide_eq_true h1)]
    refine x_seq ?_
    refine x_region ?_
    refine r1 rfl (p_mv rfl) ?_
    refine r1 rfl (p_as rfl) ?_
    refine o_nil ?_
    refine x_ret (fin1 rfl ?_)
    exact ⟨a, cap, rfl, ow, Kp.refl _ _, fun _ _ hh => hh⟩
  · skip
    rw [lay2, if_neg (of_decide_eq_false h1)]
    refine x_skip ?_
    refine x_seq ?_
    refine x_region ?_
    refine r1 rfl (p_mv rfl) ?_
    refine r1 rfl (p_mv rfl) ?_
    refine r1 rfl (p_mv rfl) ?_
    refine r1 rfl (p_mv rfl) ?_
    refine r1 rfl (p_bs runUnderlying52 zeroValue52 pl52 rfl) ?_
    show O _ _ _ _ ((_, .agg #[_, _, _]) :: _) _ _
    refine o1 rfl (s_bsl runUnderlying33 sizeOf52 zeroValue52 rfl (by decide) (by decide) rfl rfl ?_)
    intro b18 hb18 n18
    have g18 : _ ≤ b18 := n18.ge (Ext.refl _)
    have nf_ow_18 := ow.nin n18
    have x0 := (n18.ext : Ext _ _)
    have ow := ow.lift (n18.ext)
    have l18 := n18.bl
    have w18 := n18.ow (B := 0) (Nat.zero_le _) [⟨lo, hi, val⟩] rfl leneSp
    refine o1 rfl (s_appn runUnderlying33 runUnderlying33 sizeOf52 typeInfo52 zeroValue52 rfl rfl rfl leneSp oneeSp rfl rfl ow (w18.rd leneSp) (Nat.le_trans hB (Kp.size x0)) (by simp; omega) ?_)
    intro a19 c19 ha19 w19 k19 j19
    refine r1 rfl (p_as rfl) ?_
    refine o_nil ?_
    refine x_ret (fin1 rfl ?_)
    exact ⟨_, _, rfl, w19, (Kp.of_ext x0).trans k19, fun b hb hat => j19 b (Nat.lt_of_lt_of_le hb (Kp.size x0)) hat⟩

/-- The spans of some numbers, one by one. -/
def syl : Int → Nat → List Sp
  | _, 0 => []
  | r, n + 1 => (if classF r = 0 then [] else [⟨r, r, classF r⟩]) ++ syl (r + 1) n
theorem syl_snoc : ∀ (n : Nat) (r : Int), syl r (n + 1) = syl r n ++ (if classF (r + n) = 0 then [] else [⟨r + n, r + n, classF (r + n)⟩])
  | 0, r => by simp [syl]
  | n + 1, r => by
    have := syl_snoc n (r + 1)
    rw [syl, this, ← List.append_assoc]
    have e : r + 1 + (n : Int) = r + ((n + 1 : Nat) : Int) := by omega
    rw [e]
    rfl
theorem syl_len : ∀ (n : Nat) (r : Int), (syl r n).length ≤ n
  | 0, _ => by simp [syl]
  | n + 1, r => by
    have := syl_len n (r + 1)
    rw [syl, List.length_append]
    split <;> simp <;> omega

theorem c41 (B : Nat) (lo hi : Int) (n : Nat) (bO : Nat) (a : Option Addr) (cap : Nat) (l : List Sp) (h : Hp) (lO : Bl h bO [.slice a l.length cap] 33) (ow : Ow B 52 3 eSp h a cap l) (hB : B ≤ bO) (h0 : 0 ≤ lo ∧ hi ≤ 1000000) (hn : (n : Int) = hi - lo + 1) (hlen : l.length ≤ 500000000) :
    C prog 41 [.int .i64 lo, .int .i64 hi, .pointer (some ⟨bO, 0, none⟩)] h fun v h' => ∃ a' cap', v = .tuple #[] ∧ Bl h' bO [.slice a' (l ++ syl lo n).length cap'] 33 ∧ Ow B 52 3 eSp h' a' cap' (l ++ syl lo n) ∧ Fr B h h' := by
  refine enter func41 rfl ntmps41 results41 rfl rfl ?_
  refine x_seq ?_
  refine x_region ?_
  refine r1 rfl (p_mv rfl) ?_
  refine r1 rfl (p_as rfl) ?_
  refine o_nil ?_
  refine x_block ?_
  refine x_loope (σ := Nat × Option Addr × Nat) (fun s E0 => match s with | (k, ao, co) => (5, .int .i64 (lo + (k : Int))) :: E0) [(1, _), (2, _)] (fun s h' => match s with | (k, ao, co) => Fr B h h' ∧ k ≤ n ∧ Bl h' bO [.slice ao (l ++ syl lo k).length co] 33 ∧ Ow B 52 3 eSp h' ao co (l ++ syl lo k)) (fun s => match s with | (k, ao, co) => n - k) ((0, a, cap)) ⟨(by show some (Value.int .i64 lo) = some (.int .i64 (lo + ((0 : Nat) : Int))); simp), rfl, rfl, trivial⟩ ?_ ?_
  · refine ⟨Kp.refl _ _, by omega, ?_, ?_⟩
    · simpa [syl] using lO
    · simpa [syl] using ow
  rintro ⟨k, ao, co⟩ h' ⟨xk, hk, lO, ow⟩
  show X _ _ _ ((5, .int .i64 (lo + (k : Int))) :: _) _ _
  have hB0 := hB
  have hB1 : B ≤ h'.size := Nat.le_trans hB (Nat.le_of_lt lO.lt)
  have hsl := syl_len k lo
  refine x_seq ?_
  refine x_seq ?_
  refine x_region ?_
  refine r1 rfl (p_mv rfl) ?_
  refine r1 rfl (p_mv rfl) ?_
  refine r1 rfl (p_leq rfl rfl) ?_
  refine o_nil ?_
  refine x_cond rfl (fun hc => ?_) (fun hc => ?_)
  · skip
    have hlt : k < n := by have := of_decide_eq_true hc; omega
    have hsn := syl_snoc k lo
    refine x_skip ?_
    refine x_seq ?_
    refine x_block ?_
    refine x_seq ?_
    refine x_region ?_
    refine r1 rfl (p_mv rfl) ?_
    refine r1 rfl (p_conv runUnderlying3 runUnderlying21 rfl (wrap_i32 (by omega))) ?_
    refine o1 rfl (s_call call42 rfl (c42 _ _) ?_)
    rintro v1 hh1 ⟨rfl, x1⟩
    have x0 := (x1 : Ext _ _)
    have lO := lO.lift (x1)
    have ow := ow.lift (x1)
    refine r1 rfl (p_as rfl) ?_
    refine o_nil ?_
    refine x_seq ?_
    refine x_region ?_
    refine r1 rfl (p_mv rfl) ?_
    refine r1 rfl (p_neq rfl rfl) ?_
    refine o_nil ?_
    have xk1 := xk.ext x0
    refine x_cond rfl (fun h1 => ?_) (fun h1 => ?_)
    · skip
      have h1' : ¬ classF (lo + (k : Int)) = 0 := of_decide_eq_true h1
      rw [if_neg h1'] at hsn
      have hB : B ≤ hh1.size := Nat.le_trans hB (Nat.le_of_lt lO.lt)
      refine x_region ?_
      refine r1 rfl (p_ld isAgg33 rfl (lO.get rfl)) ?_
      refine r1 rfl (p_mv rfl) ?_
      refine r1 rfl (p_mv rfl) ?_
      refine r1 rfl (p_mv rfl) ?_
      refine r1 rfl (p_bs runUnderlying52 zeroValue52 pl52 rfl) ?_
      show O _ _ _ _ ((_, .agg #[_, _, _]) :: _) _ _
      refine o1 rfl (s_bsl runUnderlying33 sizeOf52 zeroValue52 rfl (by decide) (by decide) rfl rfl ?_)
      intro b23 hb23 n23
      have g23 : _ ≤ b23 := n23.ge (Ext.refl _)
      have ne23_O : b23 ≠ bO := n23.ne lO
      have nf_ow_23 := ow.nin n23
      have x0 := (n23.ext : Ext _ _)
      have lO := lO.lift (n23.ext)
      have ow := ow.lift (n23.ext)
      have l23 := n23.bl
      have w23 := n23.ow (B := 0) (Nat.zero_le _) [⟨lo + (k : Int), lo + (k : Int), classF (lo + (k : Int))⟩] rfl leneSp
      refine o1 rfl (s_app runUnderlying33 runUnderlying33 sizeOf52 typeInfo52 zeroValue52 rfl rfl rfl leneSp oneeSp rfl rfl ow (w23.rd leneSp) (Nat.le_trans hB (Kp.size x0)) (by simp; omega) ?_)
      intro a24 c24 ha24 w24 k24
      have lO := k24.bl (ow.natT lO (by decide)) lO
      refine o0 (s_sto sizeOf33 rfl rfl rfl lO rfl ?_); intro h9 u9
      refine o_nil ?_
      refine x_region ?_
      refine r1 rfl (p_mv rfl) ?_
      refine r1 rfl (p_add64 rfl rfl (by omega)) ?_
      refine r1 rfl (p_as rfl) ?_
      refine o_nil ?_
      have hw : (l ++ syl lo k) ++ [⟨lo + (k : Int), lo + (k : Int), classF (lo + (k : Int))⟩] = l ++ syl lo (k + 1) := by rw [hsn, List.append_assoc]
      have w9 := w24.kp u9.kp (fun hn => w24.neT lO (by decide) hn)
      rw [hw] at w9
      have l9 := u9.bl
      rw [hw] at l9
      refine ⟨(k + 1, a24, c24), ⟨by show some (Value.int .i64 (lo + (k : Int) + 1)) = some (.int .i64 (lo + ((k + 1 : Nat) : Int))); congr 2 <;> omega, rfl, rfl, trivial⟩, ?_, ?_⟩
      · exact ⟨((xk1.ext x0).app k24 ow).upd u9 hB0, by omega, l9, w9⟩
      · dsimp only; omega
    · skip
      have h1' : classF (lo + (k : Int)) = 0 := by have := of_decide_eq_false h1; omega
      rw [if_pos h1', List.append_nil] at hsn
      refine x_skip ?_
      refine x_region ?_
      refine r1 rfl (p_mv rfl) ?_
      refine r1 rfl (p_add64 rfl rfl (by omega)) ?_
      refine r1 rfl (p_as rfl) ?_
      refine o_nil ?_
      refine ⟨(k + 1, ao, co), ⟨by show some (Value.int .i64 (lo + (k : Int) + 1)) = some (.int .i64 (lo + ((k + 1 : Nat) : Int))); congr 2 <;> omega, rfl, rfl, trivial⟩, ?_, ?_⟩
      · exact ⟨xk1, by omega, by rw [hsn]; exact lO, by rw [hsn]; exact ow⟩
      · dsimp only; omega
  · skip
    have hlt : k = n := by have := of_decide_eq_false hc; omega
    subst hlt
    refine x_exit ?_
    refine fin0 ?_
    exact ⟨ao, co, rfl, lO, ow, xk⟩

end Go.Proofs
