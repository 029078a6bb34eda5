import Derived.Test.YteeienbhmkiloaaGreatDoorW21
import Derived.Test.YteeienbhmkiloaaGreatDoorLO
import Derived.Test.YteeienbhmkiloaaGreatDoorRows
import Derived.ChangeSame
import Derived.ChangeVars
import Derived.JoinedOf
import Derived.RowKit
import Derived.RowKitTokens
import Derived.LaidLaws
import Derived.LaidHandle
import Derived.Stop.Joined
import Derived.Stop.LaidErr
import Derived.ChangeOld
import Derived.Below
set_option linter.unusedSimpArgs false
namespace Go.Proofs.YteeienbhmkiloaaGreatDoor
open Go Go.ChangeShapes Go.WideShapes Go.RowKit Go.Lx
set_option linter.unusedVariables false
theorem own : ownKnob Tryz.prog.godebug = none := by kernel_rfl
theorem laidOut : laidOutB Tryz.prog = true := by kernel_rfl
theorem gK : Tryz.prog.globalNamed "linotype/api.ErrKind" = some 0 := by kernel_rfl
theorem gR : Tryz.prog.globalNamed "linotype/api.ErrRange" = some 1 := by kernel_rfl
theorem gKType : (Tryz.prog.globals[0]?).map (·.type) = some 66 := by kernel_rfl
theorem gRType : (Tryz.prog.globals[1]?).map (·.type) = some 66 := by kernel_rfl
theorem cells212 : Tryz.prog.cellsOf 212 = 1 := by kernel_rfl
theorem cells9 : Tryz.prog.cellsOf 9 = 1 := by kernel_rfl
theorem starName : "*" ++ "errors.errorString" = "*errors.errorString" := by decide
theorem row195 (u : TypeId) (h : Tryz.prog.typeName? 3 u = some "*errors.errorString") : u = 195 :=
  typeName_ptr_named (nm := "errors.errorString") (by rw [starName]; kernel_rfl) (by kernel_rfl) (by decide) u (by rw [starName]; exact h)

/-- What the row's condition says of the two variables. -/
theorem laid_gl {W : World} (hL : laidMetH Tryz.prog Rows.mirrorGroupsRow.laid W) : Gl [0, 1] (fun _ => False) W.heap := by
  have h : laidMet Tryz.prog Rows.mirrorGroupsRow.laid W := hL
  obtain ⟨a1, s1, hv1, _⟩ := laid_sentinel h gR gRType Tryz.underlying66 row195 Tryz.underlying195 Tryz.underlying212 rfl rfl Tryz.underlying9 cells212 cells9
  obtain ⟨a0, s0, hv0, _⟩ := laid_sentinel h.tail gK gKType Tryz.underlying66 row195 Tryz.underlying195 Tryz.underlying212 rfl rfl Tryz.underlying9 cells212 cells9
  have c0 : W.cell? ⟨0, 0, none⟩ = some (.iface 195 (.pointer (some a0))) := by simpa using World.var?_cell gK hv0 0
  have c1 : W.cell? ⟨1, 0, none⟩ = some (.iface 195 (.pointer (some a1))) := by simpa using World.var?_cell gR hv1 0
  rw [cell_cel rfl] at c0 c1
  refine ⟨fun g hg => ?_, fun _ _ h => h⟩
  simp only [List.mem_cons, List.not_mem_nil, or_false] at hg
  rcases hg with rfl | rfl
  · exact ⟨_, _, c0⟩
  · exact ⟨_, _, c1⟩

/-! ### What came in -/
section
variable {H : Type} {enc : TypeId × Value → H} {w : World} {base : Nat} {spare : Nat → Bool} {held : Bool}
theorem min64 : IntKind.i64.min = -9223372036854775808 := by decide
theorem max64 : IntKind.i64.max = 9223372036854775807 := by decide
theorem minU8 : IntKind.u8.min = 0 := by decide
theorem maxU8 : IntKind.u8.max = 255 := by decide
theorem bytes_of {fuel : Nat} {cs : List Value} {y : DataW H × List MemPlace} (h : DataW.trod enc Tryz.prog w base spare held fuel 33 cs = some y) (hw : ∀ n ∈ y.1.weights Tryz.prog 33, n ≤ reachBytes) :
    ∃ (l : List Int) (a : Option Addr) (c : Nat), cs = [.slice a l.length c] ∧ Sl r8 (fun _ => False) w.heap a c l := by
  obtain ⟨a, len, cap, rfl⟩ : ∃ a len cap, cs = [.slice a len cap] := by
    rcases DataW.trod_slice (e := 5) (by kernel_rfl) h with ⟨rfl, _⟩ | ⟨A, len', cap', elems, rest, n, _, rfl, _⟩
    · exact ⟨_, _, _, rfl⟩
    · exact ⟨_, _, _, rfl⟩
  obtain ⟨l, h1, h2⟩ := sl_of_trod (r := r8) (e := 5) (by kernel_rfl) (by kernel_rfl) (by decide) (fun fuel cs y hy _ => by
    obtain ⟨n, rfl, h1, h2⟩ := int_of_trod (k := .u8) (by kernel_rfl) hy
    rw [minU8] at h1
    rw [maxU8] at h2
    exact ⟨n, rfl, h1, h2⟩) (of_decide_eq_true (by kernel_rfl)) hw h
  subst h1
  exact ⟨l, a, cap, rfl, h2⟩
set_option maxRecDepth 100000 in
theorem op_of {fuel : Nat} {cs : List Value} {y : DataW H × List MemPlace} (h : DataW.trod enc Tryz.prog w base spare held fuel 38 cs = some y) (hw : ∀ n ∈ y.1.weights Tryz.prog 38, n ≤ reachBytes) :
    ∃ o : OpT, rOpT.R (fun _ => False) w.heap o cs := by
  obtain ⟨fs, hfs, e0, e1, e2, e3⟩ : ∃ fs : Array Field, Tryz.prog.underlying 38 = some (.struct fs) ∧ (fs[0]?).map (fun f => (f.type, f.offset)) = some (3, 0) ∧ (fs[1]?).map (fun f => (f.type, f.offset)) = some (3, 1) ∧ (fs[2]?).map (fun f => (f.type, f.offset)) = some (3, 2) ∧ (fs[3]?).map (fun f => (f.type, f.offset)) = some (33, 3) :=
    ⟨_, Tryz.underlying38, rfl, rfl, rfl, rfl⟩
  obtain ⟨xs, n, _, rfl, hl, hxl, hf⟩ := DataW.trod_struct hfs h
  have c38 : Tryz.prog.cellsOf 38 = 4 := by kernel_rfl
  have c3 : Tryz.prog.cellsOf 3 = 1 := by kernel_rfl
  have c33 : Tryz.prog.cellsOf 33 = 1 := by kernel_rfl
  rw [c38] at hl
  obtain ⟨f0, hf0, q0⟩ := Option.map_eq_some_iff.1 e0
  obtain ⟨f1, hf1, q1⟩ := Option.map_eq_some_iff.1 e1
  obtain ⟨f2, hf2, q2⟩ := Option.map_eq_some_iff.1 e2
  obtain ⟨f3, hf3, q3⟩ := Option.map_eq_some_iff.1 e3
  obtain ⟨t0, o0⟩ := Prod.mk.inj q0
  obtain ⟨t1, o1⟩ := Prod.mk.inj q1
  obtain ⟨t2, o2⟩ := Prod.mk.inj q2
  obtain ⟨t3, o3⟩ := Prod.mk.inj q3
  have g0 := hf 0 f0 hf0
  have g1 := hf 1 f1 hf1
  have g2 := hf 2 f2 hf2
  have g3 := hf 3 f3 hf3
  rw [t0, o0, c3] at g0
  rw [t1, o1, c3] at g1
  rw [t2, o2, c3] at g2
  rw [t3, o3, c33] at g3
  have sz : 4 ≤ xs.length := by
    have := (Array.getElem?_eq_some_iff.1 hf3).1
    omega
  match cs, hl with
  | [v0, v1, v2, v3], _ =>
    simp only [List.drop_zero, List.drop_succ_cons, List.take_succ_cons, List.take_zero] at g0 g1 g2 g3
    rw [List.getElem?_eq_getElem (by omega)] at g0 g1 g2 g3
    obtain ⟨n0, u0, b0, b0'⟩ := int_of_trod (k := .i64) (by kernel_rfl) g0
    obtain ⟨n1, u1, b1, b1'⟩ := int_of_trod (k := .i64) (by kernel_rfl) g1
    obtain ⟨n2, u2, b2, b2'⟩ := int_of_trod (k := .i64) (by kernel_rfl) g2
    rw [min64] at b0 b1 b2
    rw [max64] at b0' b1' b2'
    obtain ⟨l, a, c, u3, s3⟩ := bytes_of g3 (fun n hn => hw n (by
      simp only [DataW.weights, hfs]
      refine DataW.weights_mem_each (j := 3) (t := 33) (d := (xs[3]).1) ?_ ?_ n hn
      · rw [List.getElem?_map, Array.getElem?_toList, hf3]; simp [t3]
      · rw [List.getElem?_map, List.getElem?_eq_getElem (by omega)]; rfl))
    simp only [List.cons.injEq, and_true] at u0 u1 u2 u3
    subst u0 u1 u2 u3
    exact ⟨⟨n0, n1, n2, l⟩, a, c, rfl, ⟨b0, b0'⟩, ⟨b1, b1'⟩, ⟨b2, b2'⟩, s3⟩
end
end Go.Proofs.YteeienbhmkiloaaGreatDoor
