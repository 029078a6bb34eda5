/-
  PROVED: for every list of operations MirrorGroups returns true, and its argument reads afterwards as it read before. Conditions: the two listed package-level variables (errors) start as the program's text lays them (tied by the card).
-/
import Derived.Test.YteeienbhmkiloaaGreatDoorFinC
import Derived.Test.YteeienbhmkiloaaGreatDoorTie
import Derived.Test.YteeienbhmkiloaaGreatDoorCards
import Derived.SevenTiedAt
set_option linter.unusedSimpArgs false
namespace Go.Proofs.YteeienbhmkiloaaGreatDoor
open Go
set_option linter.unusedVariables false
set_option maxRecDepth 100000 in
theorem over : Rows.MirrorGroupsSaid :=
  OpenClaim.holds_of_wide 3 Tryz.f3 rfl rfl rfl rfl rfl rfl rfl ⟨rfl, rfl, rfl, rfl, rfl⟩ rfl rfl rfl rfl rfl (by kernel_rfl) Tryz.func3 (by kernel_rfl)
    (of_decide_eq_true (by kernel_rfl)) (by unfold Func.isWrapper; first | (rw [if_pos (by decide +kernel)]; kernel_rfl) | (rw [if_neg (by decide +kernel)]; exact ⟨rfl, rfl⟩))
    (fun os started H enc _ => lifted os started H enc)
theorem mirrorGroups_card : Rows.MirrorGroupsCardSaid :=
  Claim7.holds_tied_plain_at .later [] [.sentinel, .sentinel] true (true, "394a2bd5149d569946744d076b35ca46444de8f8baf37da83b88fc5db9dd6890") false
    over (fun _ h => by cases h) (by kernel_rfl) (fun _ h => by cases h) mirrorGroups_row_tie rfl ⟨rfl, rfl⟩ (by kernel_rfl) rfl
    (fun f fn hf hfn => by
      obtain rfl : f = 3 := Option.some.inj ((show Tryz.prog.funcNamed "linotype/linotypelaw41.MirrorGroups" = some 3 by kernel_rfl).symm.trans hf) |>.symm
      obtain rfl : fn = Tryz.f3 := (Option.some.inj (Tryz.func3.symm.trans hfn)).symm
      exact ⟨by kernel_rfl, fun j t ht => by
        rw [Tryz.params3] at ht
        have h3 : t = 22 := by
          rcases j with _ | j
          · simpa using ht.symm
          · simp at ht
        subst h3
        exact (show Tryz.prog.wantsStandIn 22 = false by kernel_rfl)⟩)
    (by kernel_rfl)
#print axioms mirrorGroups_card
end Go.Proofs.YteeienbhmkiloaaGreatDoor
