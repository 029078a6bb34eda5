import Derived.Test.YtpnbdejdkllflaaU4
set_option linter.unusedVariables false
namespace Go.Proofs
open Go.Lx Try

instance : Inhabited Sp := ⟨⟨0, 0, 0⟩⟩
theorem found_find {α : Type} [Inhabited α] (l : List α) (q : α → Bool) (m : Int) (f : Found l.length (fun i => q (gt l i)) m) : l.find? q = if m < l.length then some (gt l m) else none := by
  have key : ∀ k : Nat, k ≤ l.length → (k : Int) ≤ m → (l.take k).find? q = none := by
    intro k hk hm
    rw [List.find?_eq_none]
    intro x hx hq
    obtain ⟨i, hi, rfl⟩ := List.getElem_of_mem hx
    simp only [List.length_take] at hi
    have := f.no i (by omega) (by omega)
    simp only [gt, Int.toNat_natCast] at this
    rw [List.getElem_take] at hq
    have hi' : i < l.length := by omega
    simp [hi'] at this
    rw [this] at hq; cases hq
  have h0 := f.lo
  have h1 := f.hi
  obtain ⟨n, rfl⟩ := Int.eq_ofNat_of_zero_le h0
  have hn := key n (by omega) (Int.le_refl _)
  split
  · rename_i hlt
    have hlt' : n < l.length := by omega
    have hy := f.yes n (Int.le_refl _) hlt
    have hg : gt l n = l[n] := by simp [gt, hlt']
    rw [hg] at hy ⊢
    have e : l.find? q = (l.take n ++ l[n] :: l.drop (n + 1)).find? q := by simp
    rw [e, List.find?_append, hn, List.find?_cons, hy]
    simp
  · have : l.take n = l := List.take_of_length_le (by omega)
    rw [this] at hn
    exact hn

/-- What a table tells of a number: the first span that ends at it or behind it. -/
def sfind (l : List Sp) (r d : Int) : Int := match l.find? (fun s => decide (r ≤ s.hi)) with
  | some s => if s.lo ≤ r then s.val else d
  | none => d
def pfind (l : List (Int × Int)) (r : Int) : Bool := match l.find? (fun s => decide (r ≤ s.2)) with
  | some s => decide (s.1 ≤ r)
  | none => false
def Up (l : List Sp) : Prop := ∀ a b : Int, 0 ≤ a → a ≤ b → b < l.length → (gt l a).hi ≤ (gt l b).hi
def upB : List Sp → Bool
  | [] => true
  | [_] => true
  | a :: b :: r => decide (a.hi ≤ b.hi) && upB (b :: r)
theorem up_cons {a : Sp} {r : List Sp} (h : upB (a :: r) = true) : upB r = true ∧ ∀ x ∈ r, a.hi ≤ x.hi := by
  induction r generalizing a with
  | nil => exact ⟨rfl, fun x hx => by cases hx⟩
  | cons b r ih =>
    simp only [upB, Bool.and_eq_true, decide_eq_true_eq] at h
    refine ⟨h.2, fun x hx => ?_⟩
    cases hx with
    | head => exact h.1
    | tail _ hx => exact Int.le_trans h.1 ((ih h.2).2 x hx)
theorem up_of {l : List Sp} (h : upB l = true) : Up l := by
  induction l with
  | nil => intro a b h0 h1 h2; simp at h2; omega
  | cons x r ih =>
    obtain ⟨h1, h2⟩ := up_cons h
    have ih := ih h1
    intro a b ha hab hb
    by_cases e : a = 0
    · subst e
      by_cases e2 : b = 0
      · subst e2; exact Int.le_refl _
      · have hm : gt (x :: r) b ∈ r := by
          have : b.toNat = (b.toNat - 1) + 1 := by omega
          have hlt : b.toNat - 1 < r.length := by simp at hb; omega
          simp only [gt]
          rw [this]
          simp [hlt]
        exact h2 _ hm
    · have := ih (a - 1) (b - 1) (by omega) (by omega) (by simp at hb; omega)
      have e1 : gt (x :: r) a = gt r (a - 1) := by
        simp only [gt]
        have : a.toNat = (a - 1).toNat + 1 := by omega
        rw [this]; simp
      have e2 : gt (x :: r) b = gt r (b - 1) := by
        simp only [gt]
        have : b.toNat = (b - 1).toNat + 1 := by omega
        rw [this]; simp
      rw [e1, e2]; exact this

theorem c62 (i r : Int) (a : Option Addr) (cap : Nat) (l : List Sp) (bA bB : Nat) (T1 T2 : TypeId) (h : Hp) (lA : Bl h bA [.slice a l.length cap] T1) (lB : Bl h bB [.int .i32 r] T2) (hl : Rd 3 eSp h a l) (hr : B32 r) (h0 : 0 ≤ i) (h1 : i < l.length) :
    C prog 62 [.int .i64 i, .pointer (some ⟨bA, 0, none⟩), .pointer (some ⟨bB, 0, none⟩)] h fun v h' => v = .bool (decide (r ≤ (gt l i).hi)) ∧ Ext h h' := by
  unfold B32 at hr
  refine enter func62 rfl ntmps62 results62 rfl rfl ?_
  refine x_seq ?_
  refine x_region ?_
  refine r1 rfl (p_as rfl) ?_
  refine o_nil ?_
  refine x_seq ?_
  refine x_regt (by kernel_rfl) (by kernel_rfl) ?_
  refine t1 rfl (p_ld isAgg53 rfl (lA.get rfl)) ?_
  refine t1 rfl (p_mv rfl) ?_
  refine t1 rfl (p_idx runUnderlying53 sizeOf55 rfl rfl ⟨h0, h1⟩ (hl.isi h0 h1)) ?_
  refine t1 rfl (p_idxa runUnderlying55 sizeOf3 rfl rfl (by decide)) ?_
  refine t1 rfl (p_ld isAgg3 rfl (hl.ati h0 h1 (j := 1) rfl)) ?_
  refine t1 rfl (p_ld isAgg21 rfl (lB.get rfl)) ?_
  refine t1 rfl (p_conv runUnderlying21 runUnderlying3 rfl (wrap_i64 (by omega))) ?_
  refine t1 rfl (p_geq rfl rfl) ?_
  refine t1 rfl (p_as rfl) ?_
  refine t_nil ?_
  refine x_ret (fin1 rfl ?_)
  exact ⟨rfl, Ext.refl _⟩

theorem c64 (i r : Int) (a : Option Addr) (cap : Nat) (l : List Sp) (bA bB : Nat) (T1 T2 : TypeId) (h : Hp) (lA : Bl h bA [.slice a l.length cap] T1) (lB : Bl h bB [.int .i32 r] T2) (hl : Rd 3 eSp h a l) (hr : B32 r) (h0 : 0 ≤ i) (h1 : i < l.length) :
    C prog 64 [.int .i64 i, .pointer (some ⟨bA, 0, none⟩), .pointer (some ⟨bB, 0, none⟩)] h fun v h' => v = .bool (decide (r ≤ (gt l i).hi)) ∧ Ext h h' := by
  unfold B32 at hr
  refine enter func64 rfl ntmps64 results64 rfl rfl ?_
  refine x_seq ?_
  refine x_region ?_
  refine r1 rfl (p_as rfl) ?_
  refine o_nil ?_
  refine x_seq ?_
  refine x_regt (by kernel_rfl) (by kernel_rfl) ?_
  refine t1 rfl (p_ld isAgg53 rfl (lA.get rfl)) ?_
  refine t1 rfl (p_mv rfl) ?_
  refine t1 rfl (p_idx runUnderlying53 sizeOf55 rfl rfl ⟨h0, h1⟩ (hl.isi h0 h1)) ?_
  refine t1 rfl (p_idxa runUnderlying55 sizeOf3 rfl rfl (by decide)) ?_
  refine t1 rfl (p_ld isAgg3 rfl (hl.ati h0 h1 (j := 1) rfl)) ?_
  refine t1 rfl (p_ld isAgg21 rfl (lB.get rfl)) ?_
  refine t1 rfl (p_conv runUnderlying21 runUnderlying3 rfl (wrap_i64 (by omega))) ?_
  refine t1 rfl (p_geq rfl rfl) ?_
  refine t1 rfl (p_as rfl) ?_
  refine t_nil ?_
  refine x_ret (fin1 rfl ?_)
  exact ⟨rfl, Ext.refl _⟩

theorem c65 (i r : Int) (a : Option Addr) (cap : Nat) (l : List Sp) (bA bB : Nat) (T1 T2 : TypeId) (h : Hp) (lA : Bl h bA [.slice a l.length cap] T1) (lB : Bl h bB [.int .i32 r] T2) (hl : Rd 3 eSp h a l) (hr : B32 r) (h0 : 0 ≤ i) (h1 : i < l.length) :
    C prog 65 [.int .i64 i, .pointer (some ⟨bA, 0, none⟩), .pointer (some ⟨bB, 0, none⟩)] h fun v h' => v = .bool (decide (r ≤ (gt l i).hi)) ∧ Ext h h' := by
  unfold B32 at hr
  refine enter func65 rfl ntmps65 results65 rfl rfl ?_
  refine x_seq ?_
  refine x_region ?_
  refine r1 rfl (p_as rfl) ?_
  refine o_nil ?_
  refine x_seq ?_
  refine x_regt (by kernel_rfl) (by kernel_rfl) ?_
  refine t1 rfl (p_ld isAgg53 rfl (lA.get rfl)) ?_
  refine t1 rfl (p_mv rfl) ?_
  refine t1 rfl (p_idx runUnderlying53 sizeOf55 rfl rfl ⟨h0, h1⟩ (hl.isi h0 h1)) ?_
  refine t1 rfl (p_idxa runUnderlying55 sizeOf3 rfl rfl (by decide)) ?_
  refine t1 rfl (p_ld isAgg3 rfl (hl.ati h0 h1 (j := 1) rfl)) ?_
  refine t1 rfl (p_ld isAgg21 rfl (lB.get rfl)) ?_
  refine t1 rfl (p_conv runUnderlying21 runUnderlying3 rfl (wrap_i64 (by omega))) ?_
  refine t1 rfl (p_geq rfl rfl) ?_
  refine t1 rfl (p_as rfl) ?_
  refine t_nil ?_
  refine x_ret (fin1 rfl ?_)
  exact ⟨rfl, Ext.refl _⟩

theorem c63 (i r : Int) (a : Option Addr) (cap : Nat) (l : List (Int × Int)) (bA bB : Nat) (T1 T2 : TypeId) (h : Hp) (lA : Bl h bA [.slice a l.length cap] T1) (lB : Bl h bB [.int .i32 r] T2) (hl : Rd 2 r2 h a l) (h0 : 0 ≤ i) (h1 : i < l.length) :
    C prog 63 [.int .i64 i, .pointer (some ⟨bA, 0, none⟩), .pointer (some ⟨bB, 0, none⟩)] h fun v h' => v = .bool (decide (r ≤ (gt l i).2)) ∧ Ext h h' := by
  refine enter func63 rfl ntmps63 results63 rfl rfl ?_
  refine x_seq ?_
  refine x_region ?_
  refine r1 rfl (p_as rfl) ?_
  refine o_nil ?_
  refine x_seq ?_
  refine x_regt (by kernel_rfl) (by kernel_rfl) ?_
  refine t1 rfl (p_ld isAgg57 rfl (lA.get rfl)) ?_
  refine t1 rfl (p_mv rfl) ?_
  refine t1 rfl (p_idx runUnderlying57 sizeOf59 rfl rfl ⟨h0, h1⟩ (hl.isi h0 h1)) ?_
  refine t1 rfl (p_idxa runUnderlying59 sizeOf21 rfl rfl (by decide)) ?_
  refine t1 rfl (p_ld isAgg21 rfl (hl.ati h0 h1 (j := 1) rfl)) ?_
  refine t1 rfl (p_ld isAgg21 rfl (lB.get rfl)) ?_
  refine t1 rfl (p_geq rfl rfl) ?_
  refine t1 rfl (p_as rfl) ?_
  refine t_nil ?_
  refine x_ret (fin1 rfl ?_)
  exact ⟨rfl, Ext.refl _⟩

theorem c76 (i r : Int) (a : Option Addr) (cap : Nat) (l : List Sp) (bA bB : Nat) (T1 T2 : TypeId) (h : Hp) (lA : Bl h bA [.slice a l.length cap] T1) (lB : Bl h bB [.int .i64 r] T2) (hl : Rd 3 eSp h a l) (h0 : 0 ≤ i) (h1 : i < l.length) :
    C prog 76 [.int .i64 i, .pointer (some ⟨bA, 0, none⟩), .pointer (some ⟨bB, 0, none⟩)] h fun v h' => v = .bool (decide (r ≤ (gt l i).hi)) ∧ Ext h h' := by
  refine enter func76 rfl ntmps76 results76 rfl rfl ?_
  refine x_seq ?_
  refine x_region ?_
  refine r1 rfl (p_as rfl) ?_
  refine o_nil ?_
  refine x_seq ?_
  refine x_regt (by kernel_rfl) (by kernel_rfl) ?_
  refine t1 rfl (p_ld isAgg33 rfl (lA.get rfl)) ?_
  refine t1 rfl (p_mv rfl) ?_
  refine t1 rfl (p_idx runUnderlying33 sizeOf52 rfl rfl ⟨h0, h1⟩ (hl.isi h0 h1)) ?_
  refine t1 rfl (p_fld runUnderlying52 rfl sizeOf3 (by decide) rfl rfl) ?_
  refine t1 rfl (p_ld isAgg3 rfl (hl.ati h0 h1 (j := 1) rfl)) ?_
  refine t1 rfl (p_ld isAgg3 rfl (lB.get rfl)) ?_
  refine t1 rfl (p_geq rfl rfl) ?_
  refine t1 rfl (p_as rfl) ?_
  refine t_nil ?_
  refine x_ret (fin1 rfl ?_)
  exact ⟨rfl, Ext.refl _⟩

theorem t35up : upB T35 = true := by decide +kernel
theorem t38up : upB T38 = true := by decide +kernel
theorem t39up : upB T39 = true := by decide +kernel
theorem t37up : (T37.zip T37.tail).all (fun p => decide (p.1.2 ≤ p.2.2)) = true := by decide +kernel
theorem t35len : T35.length ≤ 1000 := by decide +kernel
theorem t37len : T37.length ≤ 1000 := by decide +kernel
theorem t38len : T38.length ≤ 1000 := by decide +kernel
theorem t39len : T39.length ≤ 1000 := by decide +kernel
theorem mono_of {l : List Sp} (u : Up l) (r : Int) : ∀ a b : Int, 0 ≤ a → a ≤ b → b < l.length → decide (r ≤ (gt l a).hi) = true → decide (r ≤ (gt l b).hi) = true := by
  intro a b h0 h1 h2 h3
  have := u a b h0 h1 h2
  simp only [decide_eq_true_eq] at *
  omega
def gOf (r : Int) : Int := sfind T35 r (classF r)
theorem c27 (r : Int) (h : Hp) (hr : B32 r) : C prog 27 [.int .i32 r] h fun v h' => v = .int .i64 (gOf r) ∧ Ext h h' := by
  have hr' := hr
  unfold B32 at hr'
  refine enter func27 rfl ntmps27 results27 rfl rfl ?_
  refine x_seq ?_
  refine x_region ?_
  refine o1 rfl (s_box rfl rfl ?_)
  intro b1 hb1 n1
  have g1 : _ ≤ b1 := n1.ge (Ext.refl _)
  have x0 := (n1.ext : Ext _ _)
  have l1 := n1.bl
  refine r1 rfl (p_as rfl) ?_
  refine o_nil ?_
  refine x_seq ?_
  refine x_region ?_
  refine o1 rfl (s_call call35 rfl (c35 _) ?_)
  rintro v1 hh1 ⟨a1, rfl, w1, x1⟩
  have x0 := x0.tr (x1)
  have l1 := l1.lift (x1)
  have rd := (w1.rd leneSp)
  refine o1 rfl (s_al zeroValue53 rfl ?_)
  intro b3 hb3 n3
  have g3 : _ ≤ b3 := n3.ge x0
  have ne3_1 : b3 ≠ b1 := n3.ne l1
  have nf_rd_3 := rd.nin n3
  have x0 := x0.tr (n3.ext)
  have l1 := l1.lift (n3.ext)
  have rd := rd.lift (n3.ext)
  have l3 := n3.bl
  refine o0 (s_sto sizeOf53 rfl rfl rfl l3 rfl ?_)
  intro hh2 u2
  have x0 := x0.upd u2 g3
  have l1 := u2.kp.bl (Ne.symm ne3_1) l1
  have l3 := u2.bl
  have rd := rd.updn u2 nf_rd_3
  refine o_nil ?_
  refine x_seq ?_
  refine x_region ?_
  refine r1 rfl (p_ld isAgg53 rfl (l3.get rfl)) ?_
  refine r1 rfl (p_len runUnderlying53 rfl) ?_
  refine r1 rfl (p_mf rfl rfl) ?_
  refine o1 rfl (s_call call61 rfl (c61 T35.length (fun i => decide (r ≤ (gt T35 i).hi)) 62 [] _ _ (by have := t35len; omega) call62 (fun m h0 h1 h' x => c62 m r _ _ T35 _ _ _ _ _ (l3.lift x) (l1.lift x) (rd.lift x) hr h0 h1) (mono_of (up_of t35up) r)) ?_)
  rintro v3 hh3 ⟨⟨m, rfl, fm⟩, x3⟩
  have x0 := x0.tr (x3)
  have l1 := l1.lift (x3)
  have l3 := l3.lift (x3)
  have rd := rd.lift (x3)
  refine r1 rfl (p_as rfl) ?_
  refine o_nil ?_
  refine x_seq ?_
  refine x_seq ?_
  have hfind := found_find T35 (fun s => decide (r ≤ s.hi)) m fm
  have hm0 := fm.lo

  refine x_regt (by kernel_rfl) (by kernel_rfl) ?_
  refine t1 rfl (p_mv rfl) ?_
  refine t1 rfl (p_ld isAgg53 rfl (l3.get rfl)) ?_
  refine t1 rfl (p_len runUnderlying53 rfl) ?_
  refine t1 rfl (p_lss rfl rfl) ?_
  refine t1 rfl (p_mv rfl) ?_
  apply t_and 9 (dj := 14) (d := 23) rfl
  · intro hg3_5
    refine t1h rfl rfl rfl hg3_5 (p_ld isAgg53 rfl (l3.get rfl)) ?_
    refine t1h rfl rfl rfl hg3_5 (p_mv rfl) ?_
    refine t1h rfl rfl rfl hg3_5 (p_idx runUnderlying53 sizeOf55 rfl rfl (by have := of_decide_eq_true hg3_5; omega) (rd.isi hm0 (of_decide_eq_true hg3_5))) ?_
    refine t1h rfl rfl rfl hg3_5 (p_idxa runUnderlying55 sizeOf3 rfl rfl (by decide)) ?_
    refine t1h rfl rfl rfl hg3_5 (p_ld isAgg3 rfl (rd.ati hm0 (of_decide_eq_true hg3_5) (j := 0) rfl)) ?_
    refine t1h rfl rfl rfl hg3_5 (p_ld isAgg21 rfl (l1.get rfl)) ?_
    refine t1h rfl rfl rfl hg3_5 (p_conv runUnderlying21 runUnderlying3 rfl (wrap_i64 (by omega))) ?_
    refine t1h rfl rfl rfl hg3_5 (p_leq rfl rfl) ?_
    refine t1 rfl (p_pickt hg3_5 rfl rfl rfl) ?_
    exact t_nil ⟨rfl, by repeat (first | exact le_r _ | refine le_c rfl ?_)⟩
  · intro hg3_5
    refine t1n rfl rfl rfl hg3_5 ?_
    refine t1n rfl rfl rfl hg3_5 ?_
    refine t1n rfl rfl rfl hg3_5 ?_
    refine t1n rfl rfl rfl hg3_5 ?_
    refine t1n rfl rfl rfl hg3_5 ?_
    refine t1n rfl rfl rfl hg3_5 ?_
    refine t1n rfl rfl rfl hg3_5 ?_
    refine t1n rfl rfl rfl hg3_5 ?_
    refine t1 rfl (p_pickf hg3_5 rfl rfl rfl) ?_
    exact t_nil ⟨rfl, by repeat (first | exact le_r _ | refine le_c rfl ?_)⟩
  refine t_nil ?_
  refine x_cond rfl (fun h1 => ?_) (fun h1 => ?_)
  · skip
    have h1' : m < T35.length ∧ (gt T35 m).lo ≤ r := by simpa using h1
    rw [if_pos h1'.1] at hfind
    refine x_seq ?_
    refine x_region ?_
    refine r1 rfl (p_ld isAgg53 rfl (l3.get rfl)) ?_
    refine r1 rfl (p_mv rfl) ?_
    refine r1 rfl (p_idx runUnderlying53 sizeOf55 rfl rfl ⟨hm0, h1'.1⟩ (rd.isi hm0 h1'.1)) ?_
    refine r1 rfl (p_idxa runUnderlying55 sizeOf3 rfl rfl (by decide)) ?_
    refine r1 rfl (p_ld isAgg3 rfl (rd.ati hm0 h1'.1 (j := 2) rfl)) ?_
    refine r1 rfl (p_as rfl) ?_
    refine o_nil ?_
    refine x_ret (fin1 rfl ?_)
    refine ⟨?_, x0⟩
    unfold gOf sfind
    rw [hfind]
    simp only
    rw [if_pos h1'.2]
  · skip
    have h1' : ¬ (m < T35.length ∧ (gt T35 m).lo ≤ r) := by simpa using h1
    refine x_skip ?_
    refine x_seq ?_
    refine x_region ?_
    refine r1 rfl (p_ld isAgg21 rfl (l1.get rfl)) ?_
    refine o1 rfl (s_call call42 rfl (c42 _ _) ?_)
    rintro v4 hh4 ⟨rfl, x4⟩
    have x0 := x0.tr (x4)
    have l1 := l1.lift (x4)
    have l3 := l3.lift (x4)
    have rd := rd.lift (x4)
    refine r1 rfl (p_as rfl) ?_
    refine o_nil ?_
    refine x_ret (fin1 rfl ?_)
    refine ⟨?_, x0⟩
    unfold gOf sfind
    rw [hfind]
    split
    · rename_i s hs
      split at hs
      · rename_i hlt
        cases hs
        rw [if_neg (fun hh => h1' ⟨hlt, hh⟩)]
      · cases hs
    · rfl

def cOf (r : Int) : Int := sfind T38 r 0
theorem c29 (r : Int) (h : Hp) (hr : B32 r) : C prog 29 [.int .i32 r] h fun v h' => v = .int .i64 (cOf r) ∧ Ext h h' := by
  have hr' := hr
  unfold B32 at hr'
  refine enter func29 rfl ntmps29 results29 rfl rfl ?_
  refine x_seq ?_
  refine x_region ?_
  refine o1 rfl (s_box rfl rfl ?_)
  intro b1 hb1 n1
  have g1 : _ ≤ b1 := n1.ge (Ext.refl _)
  have x0 := (n1.ext : Ext _ _)
  have l1 := n1.bl
  refine r1 rfl (p_as rfl) ?_
  refine o_nil ?_
  refine x_seq ?_
  refine x_region ?_
  refine o1 rfl (s_call call38 rfl (c38 _) ?_)
  rintro v1 hh1 ⟨a1, rfl, w1, x1⟩
  have x0 := x0.tr (x1)
  have l1 := l1.lift (x1)
  have rd := (w1.rd leneSp)
  refine o1 rfl (s_al zeroValue53 rfl ?_)
  intro b3 hb3 n3
  have g3 : _ ≤ b3 := n3.ge x0
  have ne3_1 : b3 ≠ b1 := n3.ne l1
  have nf_rd_3 := rd.nin n3
  have x0 := x0.tr (n3.ext)
  have l1 := l1.lift (n3.ext)
  have rd := rd.lift (n3.ext)
  have l3 := n3.bl
  refine o0 (s_sto sizeOf53 rfl rfl rfl l3 rfl ?_)
  intro hh2 u2
  have x0 := x0.upd u2 g3
  have l1 := u2.kp.bl (Ne.symm ne3_1) l1
  have l3 := u2.bl
  have rd := rd.updn u2 nf_rd_3
  refine o_nil ?_
  refine x_seq ?_
  refine x_region ?_
  refine r1 rfl (p_ld isAgg53 rfl (l3.get rfl)) ?_
  refine r1 rfl (p_len runUnderlying53 rfl) ?_
  refine r1 rfl (p_mf rfl rfl) ?_
  refine o1 rfl (s_call call61 rfl (c61 T38.length (fun i => decide (r ≤ (gt T38 i).hi)) 64 [] _ _ (by have := t38len; omega) call64 (fun m h0 h1 h' x => c64 m r _ _ T38 _ _ _ _ _ (l3.lift x) (l1.lift x) (rd.lift x) hr h0 h1) (mono_of (up_of t38up) r)) ?_)
  rintro v3 hh3 ⟨⟨m, rfl, fm⟩, x3⟩
  have x0 := x0.tr (x3)
  have l1 := l1.lift (x3)
  have l3 := l3.lift (x3)
  have rd := rd.lift (x3)
  refine r1 rfl (p_as rfl) ?_
  refine o_nil ?_
  refine x_seq ?_
  refine x_seq ?_
  have hfind := found_find T38 (fun s => decide (r ≤ s.hi)) m fm
  have hm0 := fm.lo
  have hm1 := fm.hi
  refine x_regt (by kernel_rfl) (by kernel_rfl) ?_
  refine t1 rfl (p_mv rfl) ?_
  refine t1 rfl (p_ld isAgg53 rfl (l3.get rfl)) ?_
  refine t1 rfl (p_len runUnderlying53 rfl) ?_
  refine t1 rfl (p_eql rfl rfl) ?_
  refine t1 rfl (p_mv rfl) ?_
  apply t_or 9 (dj := 14) (d := 23) rfl
  · intro hg3_5
    refine t1h rfl rfl rfl hg3_5 (p_ld isAgg53 rfl (l3.get rfl)) ?_
    refine t1h rfl rfl rfl hg3_5 (p_mv rfl) ?_
    refine t1h rfl rfl rfl hg3_5 (p_idx runUnderlying53 sizeOf55 rfl rfl (by have := of_decide_eq_false hg3_5; omega) (rd.isi hm0 (by have := of_decide_eq_false hg3_5; omega))) ?_
    refine t1h rfl rfl rfl hg3_5 (p_idxa runUnderlying55 sizeOf3 rfl rfl (by decide)) ?_
    refine t1h rfl rfl rfl hg3_5 (p_ld isAgg3 rfl (rd.ati hm0 (by have := of_decide_eq_false hg3_5; omega) (j := 0) rfl)) ?_
    refine t1h rfl rfl rfl hg3_5 (p_ld isAgg21 rfl (l1.get rfl)) ?_
    refine t1h rfl rfl rfl hg3_5 (p_conv runUnderlying21 runUnderlying3 rfl (wrap_i64 (by omega))) ?_
    refine t1h rfl rfl rfl hg3_5 (p_gtr rfl rfl) ?_
    refine t1 rfl (p_pickf hg3_5 rfl rfl rfl) ?_
    exact t_nil ⟨rfl, by repeat (first | exact le_r _ | refine le_c rfl ?_)⟩
  · intro hg3_5
    refine t1n rfl rfl rfl hg3_5 ?_
    refine t1n rfl rfl rfl hg3_5 ?_
    refine t1n rfl rfl rfl hg3_5 ?_
    refine t1n rfl rfl rfl hg3_5 ?_
    refine t1n rfl rfl rfl hg3_5 ?_
    refine t1n rfl rfl rfl hg3_5 ?_
    refine t1n rfl rfl rfl hg3_5 ?_
    refine t1n rfl rfl rfl hg3_5 ?_
    refine t1 rfl (p_pickt hg3_5 rfl rfl rfl) ?_
    exact t_nil ⟨rfl, by repeat (first | exact le_r _ | refine le_c rfl ?_)⟩
  refine t_nil ?_
  refine x_cond rfl (fun h1 => ?_) (fun h1 => ?_)
  · skip
    have h1' : m = T38.length ∨ r < (gt T38 m).lo := by simpa using h1
    refine x_seq ?_
    refine x_region ?_
    refine r1 rfl (p_as rfl) ?_
    refine o_nil ?_
    refine x_ret (fin1 rfl ?_)
    refine ⟨?_, x0⟩
    unfold cOf sfind
    rw [hfind]
    split
    · rename_i s hs
      split at hs
      · rename_i hlt
        cases hs
        rw [if_neg (by omega)]
      · cases hs
    · rfl
  · skip
    have h1' : ¬ (m = T38.length ∨ r < (gt T38 m).lo) := by simpa using h1
    have hlt : m < T38.length := by omega
    rw [if_pos hlt] at hfind
    refine x_skip ?_
    refine x_seq ?_
    refine x_region ?_
    refine r1 rfl (p_ld isAgg53 rfl (l3.get rfl)) ?_
    refine r1 rfl (p_mv rfl) ?_
    refine r1 rfl (p_idx runUnderlying53 sizeOf55 rfl rfl ⟨hm0, hlt⟩ (rd.isi hm0 hlt)) ?_
    refine r1 rfl (p_idxa runUnderlying55 sizeOf3 rfl rfl (by decide)) ?_
    refine r1 rfl (p_ld isAgg3 rfl (rd.ati hm0 hlt (j := 2) rfl)) ?_
    refine r1 rfl (p_as rfl) ?_
    refine o_nil ?_
    refine x_ret (fin1 rfl ?_)
    refine ⟨?_, x0⟩
    unfold cOf sfind
    rw [hfind]
    simp only
    rw [if_pos (by omega)]

def eOf (r : Int) : Int := sfind T39 r 0
theorem c30 (r : Int) (h : Hp) (hr : B32 r) : C prog 30 [.int .i32 r] h fun v h' => v = .int .i64 (eOf r) ∧ Ext h h' := by
  have hr' := hr
  unfold B32 at hr'
  refine enter func30 rfl ntmps30 results30 rfl rfl ?_
  refine x_seq ?_
  refine x_region ?_
  refine o1 rfl (s_box rfl rfl ?_)
  intro b1 hb1 n1
  have g1 : _ ≤ b1 := n1.ge (Ext.refl _)
  have x0 := (n1.ext : Ext _ _)
  have l1 := n1.bl
  refine r1 rfl (p_as rfl) ?_
  refine o_nil ?_
  refine x_seq ?_
  refine x_region ?_
  refine o1 rfl (s_call call39 rfl (c39 _) ?_)
  rintro v1 hh1 ⟨a1, rfl, w1, x1⟩
  have x0 := x0.tr (x1)
  have l1 := l1.lift (x1)
  have rd := (w1.rd leneSp)
  refine o1 rfl (s_al zeroValue53 rfl ?_)
  intro b3 hb3 n3
  have g3 : _ ≤ b3 := n3.ge x0
  have ne3_1 : b3 ≠ b1 := n3.ne l1
  have nf_rd_3 := rd.nin n3
  have x0 := x0.tr (n3.ext)
  have l1 := l1.lift (n3.ext)
  have rd := rd.lift (n3.ext)
  have l3 := n3.bl
  refine o0 (s_sto sizeOf53 rfl rfl rfl l3 rfl ?_)
  intro hh2 u2
  have x0 := x0.upd u2 g3
  have l1 := u2.kp.bl (Ne.symm ne3_1) l1
  have l3 := u2.bl
  have rd := rd.updn u2 nf_rd_3
  refine o_nil ?_
  refine x_seq ?_
  refine x_region ?_
  refine r1 rfl (p_ld isAgg53 rfl (l3.get rfl)) ?_
  refine r1 rfl (p_len runUnderlying53 rfl) ?_
  refine r1 rfl (p_mf rfl rfl) ?_
  refine o1 rfl (s_call call61 rfl (c61 T39.length (fun i => decide (r ≤ (gt T39 i).hi)) 65 [] _ _ (by have := t39len; omega) call65 (fun m h0 h1 h' x => c65 m r _ _ T39 _ _ _ _ _ (l3.lift x) (l1.lift x) (rd.lift x) hr h0 h1) (mono_of (up_of t39up) r)) ?_)
  rintro v3 hh3 ⟨⟨m, rfl, fm⟩, x3⟩
  have x0 := x0.tr (x3)
  have l1 := l1.lift (x3)
  have l3 := l3.lift (x3)
  have rd := rd.lift (x3)
  refine r1 rfl (p_as rfl) ?_
  refine o_nil ?_
  refine x_seq ?_
  refine x_seq ?_
  have hfind := found_find T39 (fun s => decide (r ≤ s.hi)) m fm
  have hm0 := fm.lo
  have hm1 := fm.hi
  refine x_regt (by kernel_rfl) (by kernel_rfl) ?_
  refine t1 rfl (p_mv rfl) ?_
  refine t1 rfl (p_ld isAgg53 rfl (l3.get rfl)) ?_
  refine t1 rfl (p_len runUnderlying53 rfl) ?_
  refine t1 rfl (p_eql rfl rfl) ?_
  refine t1 rfl (p_mv rfl) ?_
  apply t_or 9 (dj := 14) (d := 23) rfl
  · intro hg3_5
    refine t1h rfl rfl rfl hg3_5 (p_ld isAgg53 rfl (l3.get rfl)) ?_
    refine t1h rfl rfl rfl hg3_5 (p_mv rfl) ?_
    refine t1h rfl rfl rfl hg3_5 (p_idx runUnderlying53 sizeOf55 rfl rfl (by have := of_decide_eq_false hg3_5; omega) (rd.isi hm0 (by have := of_decide_eq_false hg3_5; omega))) ?_
    refine t1h rfl rfl rfl hg3_5 (p_idxa runUnderlying55 sizeOf3 rfl rfl (by decide)) ?_
    refine t1h rfl rfl rfl hg3_5 (p_ld isAgg3 rfl (rd.ati hm0 (by have := of_decide_eq_false hg3_5; omega) (j := 0) rfl)) ?_
    refine t1h rfl rfl rfl hg3_5 (p_ld isAgg21 rfl (l1.get rfl)) ?_
    refine t1h rfl rfl rfl hg3_5 (p_conv runUnderlying21 runUnderlying3 rfl (wrap_i64 (by omega))) ?_
    refine t1h rfl rfl rfl hg3_5 (p_gtr rfl rfl) ?_
    refine t1 rfl (p_pickf hg3_5 rfl rfl rfl) ?_
    exact t_nil ⟨rfl, by repeat (first | exact le_r _ | refine le_c rfl ?_)⟩
  · intro hg3_5
    refine t1n rfl rfl rfl hg3_5 ?_
    refine t1n rfl rfl rfl hg3_5 ?_
    refine t1n rfl rfl rfl hg3_5 ?_
    refine t1n rfl rfl rfl hg3_5 ?_
    refine t1n rfl rfl rfl hg3_5 ?_
    refine t1n rfl rfl rfl hg3_5 ?_
    refine t1n rfl rfl rfl hg3_5 ?_
    refine t1n rfl rfl rfl hg3_5 ?_
    refine t1 rfl (p_pickt hg3_5 rfl rfl rfl) ?_
    exact t_nil ⟨rfl, by repeat (first | exact le_r _ | refine le_c rfl ?_)⟩
  refine t_nil ?_
  refine x_cond rfl (fun h1 => ?_) (fun h1 => ?_)
  · skip
    have h1' : m = T39.length ∨ r < (gt T39 m).lo := by simpa using h1
    refine x_seq ?_
    refine x_region ?_
    refine r1 rfl (p_as rfl) ?_
    refine o_nil ?_
    refine x_ret (fin1 rfl ?_)
    refine ⟨?_, x0⟩
    unfold eOf sfind
    rw [hfind]
    split
    · rename_i s hs
      split at hs
      · rename_i hlt
        cases hs
        rw [if_neg (by omega)]
      · cases hs
    · rfl
  · skip
    have h1' : ¬ (m = T39.length ∨ r < (gt T39 m).lo) := by simpa using h1
    have hlt : m < T39.length := by omega
    rw [if_pos hlt] at hfind
    refine x_skip ?_
    refine x_seq ?_
    refine x_region ?_
    refine r1 rfl (p_ld isAgg53 rfl (l3.get rfl)) ?_
    refine r1 rfl (p_mv rfl) ?_
    refine r1 rfl (p_idx runUnderlying53 sizeOf55 rfl rfl ⟨hm0, hlt⟩ (rd.isi hm0 hlt)) ?_
    refine r1 rfl (p_idxa runUnderlying55 sizeOf3 rfl rfl (by decide)) ?_
    refine r1 rfl (p_ld isAgg3 rfl (rd.ati hm0 hlt (j := 2) rfl)) ?_
    refine r1 rfl (p_as rfl) ?_
    refine o_nil ?_
    refine x_ret (fin1 rfl ?_)
    refine ⟨?_, x0⟩
    unfold eOf sfind
    rw [hfind]
    simp only
    rw [if_pos (by omega)]

end Go.Proofs
