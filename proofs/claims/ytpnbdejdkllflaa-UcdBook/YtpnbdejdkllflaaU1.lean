import Derived.Test.YtpnbdejdkllflaaG
import Derived.Test.YtpnbdejdkllflaaChecked
set_option linter.unusedVariables false
namespace Go.Proofs
open Go.Lx Try

theorem pl28 : ∀ w, ((#[{ name := "Break", type := 3, offset := 0, embedded := false, tag := "", pkgPath := "", byteOffset := 0 }, { name := "Pict", type := 4, offset := 1, embedded := false, tag := "", pkgPath := "", byteOffset := 8 }, { name := "Conj", type := 3, offset := 2, embedded := false, tag := "", pkgPath := "", byteOffset := 16 }, { name := "East", type := 3, offset := 3, embedded := false, tag := "", pkgPath := "", byteOffset := 24 }] : Array Field).mapM (fun f => do return (f.offset, ← sizeOf f.type)) : Sem (Array (Nat × Nat))).run prog w = .ok (([(0, 1), (1, 1), (2, 1), (3, 1)] : List (Nat × Nat))).toArray w := fun _ => by kernel_rfl
theorem pl52 : ∀ w, ((#[{ name := "Lo", type := 3, offset := 0, embedded := false, tag := "", pkgPath := "", byteOffset := 0 }, { name := "Hi", type := 3, offset := 1, embedded := false, tag := "", pkgPath := "", byteOffset := 8 }, { name := "Val", type := 3, offset := 2, embedded := false, tag := "", pkgPath := "", byteOffset := 16 }] : Array Field).mapM (fun f => do return (f.offset, ← sizeOf f.type)) : Sem (Array (Nat × Nat))).run prog w = .ok (([(0, 1), (1, 1), (2, 1)] : List (Nat × Nat))).toArray w := fun _ => by kernel_rfl

/-- A span. -/
structure Sp where
  lo : Int
  hi : Int
  val : Int
  deriving DecidableEq, Inhabited
def eSp (s : Sp) : List Value := [.int .i64 s.lo, .int .i64 s.hi, .int .i64 s.val]
theorem leneSp (s : Sp) : (eSp s).length = 3 := rfl
theorem oneeSp (s : Sp) : ∀ v ∈ eSp s, v.oneCell' = true := by
  intro v hv
  simp only [eSp, List.mem_cons, List.not_mem_nil, or_false] at hv
  rcases hv with rfl | rfl | rfl <;> rfl

/-- 32 bits. -/
def B32 (r : Int) : Prop := -2147483648 ≤ r ∧ r ≤ 2147483647

def inF (r lo hi : Int) : Bool := decide (lo ≤ r) && decide (r ≤ hi)

theorem c69 (r lo hi : Int) (h : Hp) : C prog 69 [.int .i32 r, .int .i32 lo, .int .i32 hi] h fun v h' => v = .bool (inF r lo hi) ∧ Ext h h' := by
  refine enter func69 rfl ntmps69 results69 rfl rfl ?_
  refine x_seq ?_
  refine x_region ?_
  refine r1 rfl (p_as rfl) ?_
  refine o_nil ?_
  refine x_seq ?_
  refine x_region ?_
  refine r1 rfl (p_mv rfl) ?_
  refine r1 rfl (p_mv rfl) ?_
  refine r1 rfl (p_geq rfl rfl) ?_
  refine r1 rfl (p_mv rfl) ?_
  apply o_and 4 (dj := 10) (d := 14) rfl
  · intro hg1
    refine r1h rfl rfl rfl hg1 (p_mv rfl) ?_
    refine r1h rfl rfl rfl hg1 (p_mv rfl) ?_
    refine r1h rfl rfl rfl hg1 (p_leq rfl rfl) ?_
    refine r1 rfl (p_pickt hg1 rfl rfl rfl) ?_
    exact o_nil ⟨rfl, rfl, by repeat (first | exact le_r _ | refine le_c rfl ?_)⟩
  · intro hg1
    refine o1n rfl rfl rfl hg1 ?_
    refine o1n rfl rfl rfl hg1 ?_
    refine o1n rfl rfl rfl hg1 ?_
    refine r1 rfl (p_pickf hg1 rfl rfl rfl) ?_
    exact o_nil ⟨rfl, rfl, by repeat (first | exact le_r _ | refine le_c rfl ?_)⟩
  refine r1 rfl (p_as rfl) ?_
  refine o_nil ?_
  refine x_ret (fin1 rfl ?_)
  exact ⟨rfl, Ext.refl _⟩

theorem c70 (r : Int) (h : Hp) : C prog 70 [.int .i32 r] h fun v h' => v = .bool (inF r 44032 55203) ∧ Ext h h' := by
  refine enter func70 rfl ntmps70 results70 rfl rfl ?_
  refine x_seq ?_
  refine x_region ?_
  refine r1 rfl (p_as rfl) ?_
  refine o_nil ?_
  refine x_seq ?_
  refine x_region ?_
  refine r1 rfl (p_mv rfl) ?_
  refine o1 rfl (s_call call69 rfl (c69 _ _ _ _) ?_)
  rintro v1 h1 ⟨rfl, x1⟩
  have x0 := (x1 : Ext _ _)
  refine r1 rfl (p_as rfl) ?_
  refine o_nil ?_
  refine x_ret (fin1 rfl ?_)
  exact ⟨rfl, x0⟩

def classF (r : Int) : Int :=
  if inF r 4352 4447 || inF r 43360 43388 then 9
  else if inF r 4448 4519 || inF r 55216 55238 then 10
  else if inF r 4520 4607 || inF r 55243 55291 then 11
  else if inF r 44032 55203 = false then 0
  else if (r - 44032) % 28 = 0 then 12 else 13

theorem c42 (r : Int) (h : Hp) : C prog 42 [.int .i32 r] h fun v h' => v = .int .i64 (classF r) ∧ Ext h h' := by
  unfold classF
  refine enter func42 rfl ntmps42 results42 rfl rfl ?_
  refine x_seq ?_
  refine x_region ?_
  refine r1 rfl (p_as rfl) ?_
  refine o_nil ?_
  refine x_seq ?_
  refine x_block ?_
  refine x_seq ?_
  refine x_region ?_
  refine r1 rfl (p_mv rfl) ?_
  refine o1 rfl (s_call call69 rfl (c69 _ _ _ _) ?_)
  rintro v1 h1 ⟨rfl, x1⟩
  have x0 := (x1 : Ext _ _)
  refine r1 rfl (p_mv rfl) ?_
  apply o_orx 3 (dj := 6) (d := 9) rfl
  · intro hg2
    have ghg2 := Ext.refl h1
    refine r1h rfl rfl rfl hg2 (p_mv rfl) ?_
    refine o1h rfl rfl rfl hg2 (s_call call69 rfl (c69 _ _ _ _) ?_)
    rintro v3 h3 ⟨rfl, x3⟩
    have x0 := x0.trans (x3)
    have ghg2 := ghg2.trans (x3)
    refine r1 rfl (p_pickf hg2 rfl rfl rfl) ?_
    exact o_nil ⟨rfl, ghg2, by repeat (first | exact le_r _ | refine le_c rfl ?_)⟩
  · intro hg2
    have ghg2 := Ext.refl h1
    refine o1n rfl rfl rfl hg2 ?_
    refine o1n rfl rfl rfl hg2 ?_
    refine r1 rfl (p_pickt hg2 rfl rfl rfl) ?_
    exact o_nil ⟨rfl, ghg2, by repeat (first | exact le_r _ | refine le_c rfl ?_)⟩
  intro hx4 xx4
  have x0 := x0.trans (xx4)
  refine r1 rfl (p_as rfl) ?_
  refine o_nil ?_
  refine x_cond rfl (fun h1 => ?_) (fun h1 => ?_)
  · skip
    refine x_seq ?_
    refine x_region ?_
    refine r1 rfl (p_as rfl) ?_
    refine o_nil ?_
    refine x_ret (fin1 rfl ?_)
    rw [if_pos h1]; exact ⟨rfl, x0⟩
  · skip
    rw [if_neg (by rw [h1]; decide)]
    refine x_seq ?_
    refine x_region ?_
    refine r1 rfl (p_mv rfl) ?_
    refine o1 rfl (s_call call69 rfl (c69 _ _ _ _) ?_)
    rintro v5 h5 ⟨rfl, x5⟩
    have x0 := x0.trans (x5)
    refine r1 rfl (p_mv rfl) ?_
    apply o_orx 3 (dj := 13) (d := 16) rfl
    · intro hg6
      have ghg6 := Ext.refl h5
      refine r1h rfl rfl rfl hg6 (p_mv rfl) ?_
      refine o1h rfl rfl rfl hg6 (s_call call69 rfl (c69 _ _ _ _) ?_)
      rintro v7 h7 ⟨rfl, x7⟩
      have x0 := x0.trans (x7)
      have ghg6 := ghg6.trans (x7)
      refine r1 rfl (p_pickf hg6 rfl rfl rfl) ?_
      exact o_nil ⟨rfl, ghg6, by repeat (first | exact le_r _ | refine le_c rfl ?_)⟩
    · intro hg6
      have ghg6 := Ext.refl h5
      refine o1n rfl rfl rfl hg6 ?_
      refine o1n rfl rfl rfl hg6 ?_
      refine r1 rfl (p_pickt hg6 rfl rfl rfl) ?_
      exact o_nil ⟨rfl, ghg6, by repeat (first | exact le_r _ | refine le_c rfl ?_)⟩
    intro hx8 xx8
    have x0 := x0.trans (xx8)
    refine r1 rfl (p_as rfl) ?_
    refine o_nil ?_
    refine x_cond rfl (fun h2 => ?_) (fun h2 => ?_)
    · skip
      rw [if_pos h2]
      refine x_seq ?_
      refine x_region ?_
      refine r1 rfl (p_as rfl) ?_
      refine o_nil ?_
      refine x_ret (fin1 rfl ?_)
      exact ⟨rfl, x0⟩
    · skip
      rw [if_neg (by rw [h2]; decide)]
      refine x_seq ?_
      refine x_region ?_
      refine r1 rfl (p_mv rfl) ?_
      refine o1 rfl (s_call call69 rfl (c69 _ _ _ _) ?_)
      rintro v9 h9 ⟨rfl, x9⟩
      have x0 := x0.trans (x9)
      refine r1 rfl (p_mv rfl) ?_
      apply o_orx 3 (dj := 20) (d := 23) rfl
      · intro hg10
        have ghg10 := Ext.refl h9
        refine r1h rfl rfl rfl hg10 (p_mv rfl) ?_
        refine o1h rfl rfl rfl hg10 (s_call call69 rfl (c69 _ _ _ _) ?_)
        rintro v11 h11 ⟨rfl, x11⟩
        have x0 := x0.trans (x11)
        have ghg10 := ghg10.trans (x11)
        refine r1 rfl (p_pickf hg10 rfl rfl rfl) ?_
        exact o_nil ⟨rfl, ghg10, by repeat (first | exact le_r _ | refine le_c rfl ?_)⟩
      · intro hg10
        have ghg10 := Ext.refl h9
        refine o1n rfl rfl rfl hg10 ?_
        refine o1n rfl rfl rfl hg10 ?_
        refine r1 rfl (p_pickt hg10 rfl rfl rfl) ?_
        exact o_nil ⟨rfl, ghg10, by repeat (first | exact le_r _ | refine le_c rfl ?_)⟩
      intro hx12 xx12
      have x0 := x0.trans (xx12)
      refine r1 rfl (p_as rfl) ?_
      refine o_nil ?_
      refine x_cond rfl (fun h3 => ?_) (fun h3 => ?_)
      · skip
        rw [if_pos h3]
        refine x_seq ?_
        refine x_region ?_
        refine r1 rfl (p_as rfl) ?_
        refine o_nil ?_
        refine x_ret (fin1 rfl ?_)
        exact ⟨rfl, x0⟩
      · skip
        rw [if_neg (by rw [h3]; decide)]
        refine x_seq ?_
        refine x_region ?_
        refine r1 rfl (p_mv rfl) ?_
        refine o1 rfl (s_call call70 rfl (c70 _ _) ?_)
        rintro v13 h13 ⟨rfl, x13⟩
        have x0 := x0.trans (x13)
        refine r1 rfl (p_not rfl) ?_
        refine r1 rfl (p_as rfl) ?_
        refine o_nil ?_
        refine x_cond rfl (fun h4 => ?_) (fun h4 => ?_)
        · skip
          rw [if_pos (by simpa using h4)]
          refine x_seq ?_
          refine x_region ?_
          refine r1 rfl (p_as rfl) ?_
          refine o_nil ?_
          refine x_ret (fin1 rfl ?_)
          exact ⟨rfl, x0⟩
        · skip
          rw [if_neg (by simpa using h4)]
          have hb : 44032 ≤ r ∧ r ≤ 55203 := by simpa [inF] using h4
          refine x_seq ?_
          refine x_region ?_
          refine r1 rfl (p_mv rfl) ?_
          refine r1 rfl (p_sub32 rfl rfl (by omega)) ?_
          refine r1 rfl (p_rem rfl rfl (by omega) (by omega)) ?_
          refine r1 rfl (p_eql rfl rfl) ?_
          refine r1 rfl (p_as rfl) ?_
          refine o_nil ?_
          refine x_cond rfl (fun h5 => ?_) (fun h5 => ?_)
          · skip
            rw [if_pos (of_decide_eq_true h5)]
            refine x_seq ?_
            refine x_region ?_
            refine r1 rfl (p_as rfl) ?_
            refine o_nil ?_
            refine x_ret (fin1 rfl ?_)
            exact ⟨rfl, x0⟩
          · skip
            rw [if_neg (of_decide_eq_false h5)]
            refine x_skip ?_
            refine x_seq ?_
            refine x_region ?_
            refine r1 rfl (p_as rfl) ?_
            refine o_nil ?_
            refine x_ret (fin1 rfl ?_)
            exact ⟨rfl, x0⟩

/-- Rows of two numbers. -/
def e2 (x : Int × Int) : List Value := [.int .i64 x.1, .int .i64 x.2]
theorem lene2 (x : Int × Int) : (e2 x).length = 2 := rfl
def r2 (x : Int × Int) : List Value := [.int .i32 x.1, .int .i32 x.2]
theorem lenr2 (x : Int × Int) : (r2 x).length = 2 := rfl
end Go.Proofs
