/-
  PROVED: for every list of numbers UcdBook returns true, and its argument reads afterwards as it read before. Conditions: none.
  THE SHELL OF A PROOF OF 'Rows.UcdBookSaid' ('linotype/linotypelaw13.UcdBook'), WRITTEN BY PROGRAM (proof-skeleton.mjs, third state) off the guide's own print for that function. Not trusted: Lean checks it.
  YOURS IS THE HOLE MARKED 'HOLE' (it bears 'sorry'). ALL ELSE IS THE GUIDE's OWN WAY (howto/template/XProofs.lean; Derived/Test/ChunkProofs.lean for 'Below') at this function's number and types: leave it.
-/
import Derived.Test.YtpnbdejdkllflaaRows
import Derived.Test.YtpnbdejdkllflaaU22
import Derived.WalkKit
import Derived.ProofKit
import Derived.OpenShut
import Derived.ShutString
import Derived.ChangeOld
import Derived.Below
namespace Go.Proofs.Ytpnbdejdkllflaa.ucdBook
open Go.ChangeShapes Go.WideShapes Go.ChangeAt Go.RowKit
open Go.ChangeMaps (open_string shut_string)
set_option linter.unusedVariables false

theorem own : ownKnob Try.prog.godebug = none := by kernel_rfl
theorem laidOut : laidOutB Try.prog = true := by kernel_rfl

/-- WHAT THE WALK IS TOLD OF A SLICE OF INTEGERS THAT CAME IN: it is nil; or it leads to a row of 'cap' cells, the numbers 'zs' (the first 'len' are its elements, the rest its spare room), each fitting its kind. -/
def IsRow (k : IntKind) (w : World) (a : Option Addr) (len cap : Nat) (zs : List Int) : Prop :=
  (a = none ∧ len = 0 ∧ cap = 0 ∧ zs = []) ∨
  ∃ x, a = some x ∧ len ≤ cap ∧ cap ≤ maxLen ∧ zs.length = cap ∧ (∀ i, i < zs.length → w.cell? (x.add i) = some (.int k (zs.getD i 0))) ∧ ∀ n ∈ zs, (Lit.int k n).wf = true

/-! ### STEP 1: THE WALK: the Go text returns true, AND WRITES NOTHING THAT WAS THERE: 'Below w.heap.size w w'' (Derived/Below.lean: '.refl', '.alloc', '.drew', '.setCell' at a new block, '.trans'). Open each 'IsRow' by 'rcases' AHEAD of 'go_enter'; part every test ahead of the walk. -/
theorem walk (a0 : Option Addr) (len0 cap0 : Nat) (z0 : List Int) (w : World) (w0 : IsRow .i32 w a0 len0 cap0 z0) :
    Calls Try.prog 3 #[.slice a0 len0 cap0] w fun e w' => e = .returned (.bool true) ∧ Below w.heap.size w w' := by
  obtain ⟨l, hl, rd, hb, hle⟩ : ∃ l : List Int, l.length = len0 ∧ Go.Lx.Rd 1 e32 w.heap a0 l ∧ (∀ x ∈ l, B32 x) ∧ len0 ≤ 9223372036854775807 := by
    rcases w0 with ⟨rfl, rfl, rfl, rfl⟩ | ⟨x, rfl, hle, hm, hz, hcell, hwz⟩
    · exact ⟨[], rfl, Go.Lx.Rd.nil, fun x hx => (by cases hx), by decide⟩
    · obtain ⟨b, off, spot⟩ := x
      have hsp : z0 ≠ [] → spot = none := fun hn => by
        have hp := List.length_pos_iff.2 hn
        have := World.cell?_spot (hcell 0 hp)
        simpa [Addr.add] using this
      have hcl : ∀ i, i < z0.length → Go.Lx.cel w.heap b (off + i) = some (.int .i32 (z0.getD i 0)) := fun i hi => by
        have hs := hsp (fun e => by rw [e] at hi; simp at hi)
        subst hs
        have h1 := hcell i hi
        rw [Go.Lx.add_eq, Go.Lx.cell_cel rfl] at h1
        exact h1
      have hne : z0.take len0 ≠ [] → z0 ≠ [] := fun hn e => hn (by rw [e]; simp)
      refine ⟨z0.take len0, by rw [List.length_take]; omega, ⟨fun hn => ?_, fun hn => ?_, fun i y hy j v hv => ?_⟩, fun y hy => ?_, by unfold maxLen at hm; omega⟩
      · have hs := hsp (hne hn)
        subst hs; rfl
      · have h1 := hcl 0 (List.length_pos_iff.2 (hne hn))
        exact Go.Lx.cel_lt h1
      · have hi : i < (z0.take len0).length := (List.getElem?_eq_some_iff.1 hy).1
        rw [List.length_take] at hi
        have h1 := hcl i (by omega)
        have h2 : z0.getD i 0 = y := by
          rw [List.getElem?_take, if_pos (by omega)] at hy
          rw [List.getD_eq_getElem?_getD, hy]; rfl
        rw [h2] at h1
        have hj : j = 0 ∧ v = .int .i32 y := by
          cases j with
          | zero => simp [e32] at hv; exact ⟨rfl, hv.symm⟩
          | succ j => simp [e32] at hv
        rw [hj.1, hj.2]
        show Go.Lx.cel w.heap b (off + i * 1 + 0) = _
        rw [Nat.mul_one, Nat.add_zero]; exact h1
      · have := hwz y (List.mem_of_mem_take hy)
        unfold B32
        simp [Lit.wf] at this
        have e1 : IntKind.i32.min = -2147483648 := by decide
        have e2 : IntKind.i32.max = 2147483647 := by decide
        rw [e1, e2] at this
        exact this
  subst hl
  refine Calls.mono ((c3 a0 cap0 l w.heap rd hb (by omega)).run w rfl) ?_
  rintro e w' ⟨v, he, io, rfl, x⟩
  exact ⟨he, io.1, io.2.1, io.2.2, x.size, fun k hk => x.keep k hk (fun h => h)⟩

/-! ### THE ROW's STEP: WRITTEN OUT: LEAVE IT -/
set_option maxRecDepth 100000 in
theorem lifted (os : Os) (started : os.Started) (H : Type) (enc : TypeId × Value → H) :
    ReturnsInHanded {} Try.checked os 3 .any (Rows.ucdBookSpec.pre6 enc Try.prog Try.f3 Rows.ucdBookRow.domain false) (Rows.ucdBookSpec.post enc Try.prog Try.f3 false true false false) := by
  refine returnsInHanded_of_change (C := Try.checked) own started (by kernel_rfl) Try.func3
    (ChangeSpec.witness6 (enc := enc) (C := Try.checked) false ⟨#[], #[.slice none 0 0], []⟩ 8 (by kernel_rfl) (by kernel_rfl) (by kernel_rfl) (by kernel_rfl)) ?_
  intro W base args ds gs before hval0 hW hcnd _
  have hval : ∀ (j : Nat) t v, Try.f3.params[j]? = some t → args[j]? = some v → Value.okWide Try.prog W .any base t v := hval0
  have hW' := hW
  obtain ⟨p, q, hA0, hV, rfl, hfz, hnd⟩ := hW
  have hA : DataW.TrodAll enc Try.prog W 0 (fun _ => true) true Try.f3.params.toList args.toList ds p := hA0
  rw [Try.params3] at hA hval
  obtain ⟨v0, vs0, d0, ds0, p0, q0, hargs, rfl, rfl, h0, r0⟩ := trodAll_cons hA
  obtain ⟨rfl, rfl, rfl⟩ := trodAll_nil r0
  obtain rfl : args = #[v0] := by cases args; simp_all
  obtain ⟨rfl, rfl⟩ := trodVars_none hV
  obtain ⟨a0, len0, cap0, rfl⟩ := okWide_slice Try.underlying22 (hval 0 22 v0 rfl rfl)
  have k0 := h0
  have lt0 : ∀ x ∈ p0, x.block < W.heap.size := by obtain ⟨m, hm⟩ := k0; exact DataW.trod_lt m _ _ _ hm
  obtain ⟨z0, w0⟩ : ∃ zs, IsRow .i32 W a0 len0 cap0 zs := by
    obtain ⟨fuel, hf⟩ := h0
    rcases open_ints Try.underlying22 Try.underlying21 (by kernel_rfl) hf with ⟨hcs, _⟩ | ⟨x, l, c, zs, hcs, _, hl, hm, hz, _, hcell, hwz⟩
    · simp [Value.cells] at hcs
      obtain ⟨rfl, rfl, rfl⟩ := hcs
      exact ⟨[], .inl ⟨rfl, rfl, rfl, rfl⟩⟩
    · simp [Value.cells] at hcs
      obtain ⟨rfl, rfl, rfl⟩ := hcs
      exact ⟨zs, .inr ⟨_, rfl, hl, hm, by simpa using hz, hcell, hwz⟩⟩
  clear hA0 hval0
  refine (walk a0 len0 cap0 z0 W w0).mono fun e W' ⟨he, bel⟩ => ?_
  subst he
  exact ⟨_, rfl, _, _, _, [], _, [], hW', trodAll_mk1 (shut_bool Try.underlying4 _), (trodAll_cons_mk (Below.trod laidOut (by kernel_rfl) (of_decide_eq_true (by kernel_rfl)) k0 bel lt0) trodAll_mk0), rfl, bel.frame _, fun h => by cases h⟩

theorem over : Rows.ucdBookRow.holds Try.pinned (OpenSpec.ofChange Rows.ucdBookSpec) :=
  OpenClaim.holds_of_wide 3 Try.f3 rfl rfl rfl rfl rfl rfl rfl ⟨rfl, rfl, rfl, rfl, rfl⟩ rfl rfl rfl rfl rfl (by kernel_rfl) Try.func3 (by kernel_rfl)
    (of_decide_eq_true (by kernel_rfl)) (by unfold Func.isWrapper; first | (rw [if_pos (by decide +kernel)]; kernel_rfl) | (rw [if_neg (by decide +kernel)]; exact ⟨rfl, rfl⟩))
    (fun os started H enc _ => lifted os started H enc)

/-- ████ THE STATEMENT ████ -/
theorem proved : Rows.UcdBookSaid := over
#print axioms proved
end Go.Proofs.Ytpnbdejdkllflaa.ucdBook
