import Derived.Test.YtpnbdejdkllflaaG2
import Derived.Test.YtpnbdejdkllflaaU5
set_option linter.unusedVariables false
namespace Go.Proofs
open Go.Lx Try
theorem fo28 : prog.fieldsOf 28 = #[{ name := "Break", type := 3, offset := 0, embedded := false, tag := "", pkgPath := "", byteOffset := 0 }, { name := "Pict", type := 4, offset := 1, embedded := false, tag := "", pkgPath := "", byteOffset := 8 }, { name := "Conj", type := 3, offset := 2, embedded := false, tag := "", pkgPath := "", byteOffset := 16 }, { name := "East", type := 3, offset := 3, embedded := false, tag := "", pkgPath := "", byteOffset := 24 }] := by kernel_rfl
theorem us28 : prog.underlying 28 = some (.struct (prog.fieldsOf 28)) := by kernel_rfl
theorem heq28d (d : Nat) (a c e a' c' e' : Int) (b b' : Bool) (w : World) : (Op.equalIn (d + 1 + 1) 28 (.agg #[.int .i64 a, .bool b, .int .i64 c, .int .i64 e]) (.agg #[.int .i64 a', .bool b', .int .i64 c', .int .i64 e'])).run prog w =
    .ok (a == a' && b == b' && c == c' && e == e') w := by
  rw [run_equalIn_struct w (d + 1) 28 _ _ us28 stoodInHeld28, fo28]
  simp [Op.eqFields, part, isAgg3, isAgg4, run_equalIn_int w d 3 .i64 .i64 _ _ underlying3, run_equalIn_bool' w d 4 _ _ underlying4]
  by_cases h1 : a = a' <;> by_cases h2 : b = b' <;> by_cases h3 : c = c' <;> by_cases h4 : e = e' <;> simp [h1, h2, h3, h4]
theorem heq28 (a c e a' c' e' : Int) (b b' : Bool) (w : World) : (Op.equal 28 (.agg #[.int .i64 a, .bool b, .int .i64 c, .int .i64 e]) (.agg #[.int .i64 a', .bool b', .int .i64 c', .int .i64 e'])).run prog w =
    .ok (a == a' && b == b' && c == c' && e == e') w := heq28d 9998 a c e a' c' e' b b' w
end Go.Proofs
