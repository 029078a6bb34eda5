import Derived.Test.YteeienbhmkiloaaGreatDoorLU
set_option linter.unusedSimpArgs false
set_option linter.unusedVariables false
namespace Go.Lx
section
variable {P : Program} {E : Env} {h : Hp} {ty : TypeId}
theorem bv_nat {k : IntKind} {m : Int} (h0 : 0 ≤ m) (h1 : m < 2 ^ k.bits) : (BitVec.ofInt k.bits m).toNat = m.toNat := by
  rw [BitVec.toNat_ofInt]
  congr 1
  exact Int.emod_eq_of_lt h0 (by exact_mod_cast h1)
theorem p_and {t t' : TypeId} {x y : Operand} {k : IntKind} {m n : Int} (hx : ev E x = some (.int k m)) (hy : ev E y = some (.int k n)) (h0 : 0 ≤ m ∧ m < 2 ^ k.bits) (h1 : 0 ≤ n ∧ n < 2 ^ k.bits) {r : Int} (hr : ((m.toNat &&& n.toNat : Nat) : Int) = r) (hw : k.wrap r = r) :
    SP P (.binOp .and t x y t') ty E h (.int k r) :=
  ⟨fun n' a w o ho ht f hw' => by
    simp [execOp, ho, f.ev hx, f.ev hy, eqGuard, binOp, Op.intBits]
    rw [Int.emod_eq_of_lt h0.1 h0.2, Int.emod_eq_of_lt h1.1 h1.2, hr, hw]⟩
theorem p_or {t t' : TypeId} {x y : Operand} {k : IntKind} {m n : Int} (hx : ev E x = some (.int k m)) (hy : ev E y = some (.int k n)) (h0 : 0 ≤ m ∧ m < 2 ^ k.bits) (h1 : 0 ≤ n ∧ n < 2 ^ k.bits) {r : Int} (hr : ((m.toNat ||| n.toNat : Nat) : Int) = r) (hw : k.wrap r = r) :
    SP P (.binOp .or t x y t') ty E h (.int k r) :=
  ⟨fun n' a w o ho ht f hw' => by
    simp [execOp, ho, f.ev hx, f.ev hy, eqGuard, binOp, Op.intBits]
    rw [Int.emod_eq_of_lt h0.1 h0.2, Int.emod_eq_of_lt h1.1 h1.2, hr, hw]⟩
theorem p_shlw {t t' : TypeId} {x y : Operand} {k k' : IntKind} {m r : Int} {s : Nat} (hx : ev E x = some (.int k m)) (hy : ev E y = some (.int k' (s : Int))) (hs : s ≤ k.bits) (hr : k.wrap (m * 2 ^ s) = r) : SP P (.binOp .shl t x y t') ty E h (.int k r) := by
  subst hr; exact p_shl hx hy hs
end
theorem and_mask (s : Nat) {m : Int} (h0 : 0 ≤ m) : ((m.toNat &&& ((2 : Int) ^ s - 1).toNat : Nat) : Int) = m % 2 ^ s := by
  have e : ((2 : Int) ^ s - 1).toNat = 2 ^ s - 1 := by
    have : (1 : Int) ≤ 2 ^ s := by exact_mod_cast Nat.one_le_two_pow
    have h2 : ((2 : Int) ^ s) = ((2 ^ s : Nat) : Int) := by simp
    rw [h2]; omega
  rw [e, Nat.and_two_pow_sub_one_eq_mod]
  have : m = (m.toNat : Int) := by omega
  conv => rhs; rw [this]
  simp
theorem or_low (s : Nat) {a b : Nat} (hb : b < 2 ^ s) : (a * 2 ^ s ||| b) = a * 2 ^ s + b := by
  rw [Nat.mul_comm]
  exact (Nat.two_pow_add_eq_or_of_lt hb a).symm
theorem or_low' (s : Nat) {m n : Int} (hm : ∃ a : Nat, m = a * 2 ^ s) (h0 : 0 ≤ n) (hn : n < 2 ^ s) : ((m.toNat ||| n.toNat : Nat) : Int) = m + n := by
  obtain ⟨a, rfl⟩ := hm
  have e : ((a : Int) * 2 ^ s).toNat = a * 2 ^ s := by
    rw [show ((a : Int) * 2 ^ s) = ((a * 2 ^ s : Nat) : Int) by simp]; rfl
  have hn2 : n.toNat < 2 ^ s := by
    have : (n : Int) < ((2 ^ s : Nat) : Int) := by simpa using hn
    omega
  rw [e, or_low s hn2]
  push_cast
  omega
end Go.Lx
