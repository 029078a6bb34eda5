import Derived.Test.YteeienbhmkiloaaGreatDoorW20
set_option linter.unusedSimpArgs false
set_option linter.unusedVariables false
namespace Go.Proofs
open Go.Lx

theorem fed_told {s : List Int} (hb : ∀ x ∈ s, BU8 x) : fedF s = told s := by
  have h := (told_feed hb).2.1
  unfold fedF told
  by_cases ht : 0 < tailF s
  · rw [if_pos (h.1 ht), if_pos (show tailF s > 0 from ht)]
  · rw [if_neg (fun e => ht (h.2 e)), if_neg (show ¬ tailF s > 0 from ht)]
/-- Behind the reading of an operation's bytes. -/
def midA (r : Rdr) (o : OpT) : Rdr := if o.kind = 0 then rdrFeed r o.bytes else r
theorem bytes_mid {r : Rdr} {o : OpT} {p : PenR} (hk : o.kind = 0) (hb : ∀ x ∈ r.raw, BU8 x) (ho : ∀ x ∈ o.bytes, BU8 x) :
    (bytesF ⟨p, r.cur, r.raw, (r.came : Int)⟩ o.bytes).group = (midA r o).cur ∧ (bytesF ⟨p, r.cur, r.raw, (r.came : Int)⟩ o.bytes).raw = (midA r o).raw ∧ (bytesF ⟨p, r.cur, r.raw, (r.came : Int)⟩ o.bytes).parts = ((midA r o).came : Int) := by
  have e := fed_told (s := r.raw ++ o.bytes) fun x hx => (List.mem_append.1 hx).elim (hb x) (ho x)
  unfold bytesF midA
  rw [if_pos hk]
  simp only [rdrFeed, e, Int.toNat_natCast]
  exact ⟨trivial, trivial, trivial⟩
theorem read_mid {r : Rdr} {o : OpT} (hk : ¬ o.kind = 1) : rdrRead r o = midA r o := by
  unfold rdrRead midA
  split
  · rfl
  · first | rfl | rw [if_neg hk]
theorem mid_one {r : Rdr} {o : OpT} (hk : o.kind = 1) : midA r o = r := by
  unfold midA; rw [if_neg (by omega)]
theorem flush_cur {n k : Nat} {r : Rdr} (i : RInv n k r) : (rdrFlush r).cur = if 0 < heldF r.raw then r.cur ++ [65533] else r.cur := by
  have t := told_feed i.raw
  unfold rdrFlush
  simp only
  rw [i.came, t.2.2.1]
  by_cases h : 0 < tailF r.raw
  · rw [if_pos h, if_pos (t.2.1.1 h)]
    simp [t.2.2.2 h]
  · rw [if_neg h, if_neg (fun e => h (t.2.1.2 e))]
    simp
theorem op_done (r : Rdr) (o : OpT) : r.done <+: (rdrOp r o).done := by
  unfold rdrOp
  split
  · simp only [read_done]; exact List.prefix_append _ _
  · rw [read_done]; exact List.prefix_refl _
theorem fold_done : ∀ (l : List OpT) (r : Rdr), r.done <+: (l.foldl rdrOp r).done
  | [], r => List.prefix_refl _
  | o :: l, r => (op_done r o).trans (fold_done l (rdrOp r o))
theorem all_done (l : List OpT) (i : Nat) : (rdrAll (l.take i)).done <+: (rdrAll l).done := by
  have e : rdrAll l = (l.drop i).foldl rdrOp (rdrAll (l.take i)) := by
    unfold rdrAll; rw [← List.foldl_append, List.take_append_drop]
  rw [e]; exact fold_done _ _
theorem groups_at {l : List OpT} {i : Nat} (hi : i < l.length) (hc : closesF (gt l (i : Int)) = true) :
    (rdrAll (l.take i)).done.length < (groupsF l).length ∧ gt (groupsF l) ((rdrAll (l.take i)).done.length : Int) = (rdrRead (rdrAll (l.take i)) (gt l (i : Int))).cur := by
  have e1 : l.take (i + 1) = l.take i ++ [gt l (i : Int)] := by rw [gt_lt hi]; exact List.take_succ_eq_append_getElem hi
  obtain ⟨t, ht⟩ := all_done l (i + 1)
  rw [e1, rdrAll_snoc] at ht
  have ed : (rdrOp (rdrAll (l.take i)) (gt l (i : Int))).done = (rdrAll (l.take i)).done ++ [(rdrRead (rdrAll (l.take i)) (gt l (i : Int))).cur] := by
    unfold rdrOp; rw [if_pos hc]; simp only [read_done]
  rw [ed] at ht
  unfold groupsF
  rw [← ht]
  constructor
  · simp
  · simp [gt]
theorem mid_bd {n k : Nat} {r : Rdr} {o : OpT} (i : RInv n k r) : (midA r o).raw.length ≤ n + o.bytes.length ∧ (midA r o).came ≤ n + o.bytes.length ∧ (midA r o).cur.length ≤ k + n + o.bytes.length := by
  have hc := i.cl
  have hr := i.rl
  have h1 := told_le (r.raw ++ o.bytes)
  have h2 := told_le r.raw
  have h3 := i.came
  rw [List.length_append] at h1
  unfold midA
  split
  · simp only [rdrFeed, List.length_append, List.length_map, List.length_drop]; omega
  · omega
theorem op_two {r : Rdr} {o : OpT} (hk : ¬ o.kind = 1) : (rdrOp r o).raw = (midA r o).raw ∧ (rdrOp r o).came = (midA r o).came := by
  unfold rdrOp
  rw [read_mid hk]
  split <;> exact ⟨rfl, rfl⟩
theorem op_one {r : Rdr} {o : OpT} (hk : o.kind = 1) : (rdrOp r o).raw = [] ∧ (rdrOp r o).came = 0 := by
  have e : rdrRead r o = rdrFlush r := by unfold rdrRead; rw [if_neg (by omega), if_pos hk]
  unfold rdrOp
  rw [e]
  split <;> exact ⟨rfl, rfl⟩
theorem op_yes {r : Rdr} {o : OpT} (hc : closesF o = true) : (rdrOp r o).cur = [] ∧ (rdrOp r o).done.length = r.done.length + 1 := by
  unfold rdrOp
  rw [if_pos hc]
  simp [read_done]
theorem op_no {r : Rdr} {o : OpT} (hc : closesF o = false) : (rdrOp r o).cur = (rdrRead r o).cur ∧ (rdrOp r o).done.length = r.done.length := by
  unfold rdrOp
  rw [if_neg (by rw [hc]; simp), read_done]
  exact ⟨rfl, rfl⟩
theorem read_one {n k : Nat} {r : Rdr} {o : OpT} (i : RInv n k r) (hk : o.kind = 1) : (rdrRead r o).cur = if 0 < heldF r.raw then r.cur ++ [65533] else r.cur := by
  have e : rdrRead r o = rdrFlush r := by unfold rdrRead; rw [if_neg (by omega), if_pos hk]
  rw [e]; exact flush_cur i
end Go.Proofs
