import Derived.Test.YteeienbhmkiloaaGreatDoorW8
import Derived.Test.YteeienbhmkiloaaGreatDoorLY
set_option linter.unusedSimpArgs false
set_option linter.unusedVariables false
namespace Go.Proofs
open Go.Lx Tryz

/-- A row: its block p, its cells' block q. -/
def RowB (p q b : Nat) : Prop := b = p ∨ b = q
def RowAt (p q : Nat) (l : Line) (M : Nat → Prop) (h : Hp) : Prop :=
  ∃ c, Bl h p [.slice (some ⟨q, 0, none⟩) l.cells.length c, .bool l.wrap] 132 ∧ M p ∧ Ow 0 134 rCell M h (some ⟨q, 0, none⟩) c l.cells ∧ 0 < c ∧ p ≠ q
theorem row_obj (p q : Nat) (l : Line) : Obj' (RowB p q) (RowAt p q l) where
  stab := by
    rintro M M' W h h' ⟨c, lb, mp, w, c0, ne⟩ g hs k hW
    exact ⟨c, k.bl (hW p (.inl rfl)) lb, hs _ mp, w.stab g hs k (fun b hb => by rw [hb.2]; exact hW q (.inr rfl)), c0, ne⟩
  lt := by
    rintro M h ⟨c, lb, mp, w, c0, ne⟩ b hb
    rcases hb with rfl | rfl
    · exact lb.lt
    · exact w.lt _ ⟨c0, rfl⟩
  mem := by
    rintro M h ⟨c, lb, mp, w, c0, ne⟩ b hb
    rcases hb with rfl | rfl
    · exact mp
    · exact w.mem _ ⟨c0, rfl⟩
theorem row_sh {p q : Nat} {l : Line} {M M' : Nat → Prop} {h : Hp} (o : RowAt p q l M h) (hs : ∀ b, M' b → M b) (hm : ∀ b, RowB p q b → M' b) : RowAt p q l M' h := by
  obtain ⟨c, lb, mp, w, c0, ne⟩ := o
  exact ⟨c, lb, hm p (.inl rfl), w.shrink hs (fun b hb => by rw [hb.2]; exact hm q (.inr rfl)), c0, ne⟩
end Go.Proofs
