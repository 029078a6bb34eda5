import Derived.Test.YtpnbdejdkllflaaG
import Derived.Laws.StructEq
set_option linter.unusedVariables false
namespace Go.Lx
section
variable {P : Program} {E : Env} {h : Hp} {ty : TypeId}
theorem run_eqp_d (d : Nat) {t e : TypeId} {w : World} (p : Option Addr) (hu : (underlying t).run P w = .ok (.pointer e) w) : (Op.equalIn (d + 1) t (.pointer p) (.pointer none)).run P w = .ok p.isNone w := by
  cases p with
  | none => simp [Op.equalIn, hu]
  | some a => simp [Op.equalIn, hu]
theorem run_eqp {t e : TypeId} {w : World} (p : Option Addr) (hu : (underlying t).run P w = .ok (.pointer e) w) : (Op.equal t (.pointer p) (.pointer none)).run P w = .ok p.isNone w :=
  run_eqp_d 9999 p hu
theorem p_eqlp {t e t' : TypeId} {x y : Operand} {p : Option Addr} (hu : ∀ w, (underlying t).run P w = .ok (.pointer e) w) (hx : ev E x = some (.pointer p)) (hy : ev E y = some (.pointer none)) : SP P (.binOp .eql t x y t') ty E h (.bool p.isNone) :=
  ⟨fun n a w o ho ht f hw => by simp [execOp, ho, f.ev hx, f.ev hy, eqGuard_at_pointer, binOp, run_eqp p (hu w)]⟩
theorem p_neqp {t e t' : TypeId} {x y : Operand} {p : Option Addr} (hu : ∀ w, (underlying t).run P w = .ok (.pointer e) w) (hx : ev E x = some (.pointer p)) (hy : ev E y = some (.pointer none)) : SP P (.binOp .neq t x y t') ty E h (.bool p.isSome) :=
  ⟨fun n a w o ho ht f hw => by cases p <;> simp [execOp, ho, f.ev hx, f.ev hy, eqGuard_at_pointer, binOp, run_eqp _ (hu w)]⟩
theorem p_eqls {t t' : TypeId} {x y : Operand} {xs ys : Array Value} {b : Bool} (hg : P.eqGuardType P.depth t = false) (heq : ∀ w, (Op.equal t (.agg xs) (.agg ys)).run P w = .ok b w) (hx : ev E x = some (.agg xs)) (hy : ev E y = some (.agg ys)) :
    SP P (.binOp .eql t x y t') ty E h (.bool b) :=
  ⟨fun n a w o ho ht f hw => by simp [execOp, ho, f.ev hx, f.ev hy, eqGuard, binOp, hg, heq]⟩
theorem p_neqs {t t' : TypeId} {x y : Operand} {xs ys : Array Value} {b : Bool} (hg : P.eqGuardType P.depth t = false) (heq : ∀ w, (Op.equal t (.agg xs) (.agg ys)).run P w = .ok b w) (hx : ev E x = some (.agg xs)) (hy : ev E y = some (.agg ys)) :
    SP P (.binOp .neq t x y t') ty E h (.bool (!b)) :=
  ⟨fun n a w o ho ht f hw => by simp [execOp, ho, f.ev hx, f.ev hy, eqGuard, binOp, hg, heq]⟩
end
end Go.Lx
