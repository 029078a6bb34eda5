import Derived.Test.YtpnbdejdkllflaaU11
import Derived.Test.YtpnbdejdkllflaaSh
set_option linter.unusedVariables false
namespace Go.Proofs
open Go.Lx Try

def srt (l : List Int) : List Int := l.mergeSort fun x y => decide (x ≤ y)
theorem srt_len (l : List Int) : (srt l).length = l.length := by simp [srt]

theorem fl_e1_get (l : List Int) (rest : List Value) (k : Nat) : (fl e1 l ++ rest)[k]? = if h : k < l.length then some (.int .i64 l[k]) else rest[k - l.length]? := by
  have hl : (fl e1 l).length = l.length := by rw [fl_length lene1]; omega
  split
  · rename_i h
    rw [List.getElem?_append_left (by omega)]
    have := fl_get lene1 l k l[k] (by simp) 0 (.int .i64 l[k]) rfl
    simpa using this
  · rename_i h
    rw [List.getElem?_append_right (by omega), hl]

theorem c66 (B : Nat) (a : Option Addr) (cap : Nat) (l : List Int) (h : Hp) (ow : Ow B 3 1 e1 h a cap l) (hne : l ≠ []) (hlen : l.length ≤ 100000000) :
    C prog 66 [.slice a l.length cap] h fun v h' => v = .tuple #[] ∧ Ow B 3 1 e1 h' a cap (srt l) ∧ Kp (At a) h h' := by
  rcases ow with ⟨_, _, hl⟩ | ⟨b, rest, rfl, hB, hb, h1, h2⟩
  · exact absurd hl hne
  have hbl := hb.lt
  refine ⟨fun w hw => ?_⟩
  have hb' : w.heap[b]? = some (.cells (fl e1 l ++ rest).toArray 3 (0, 0)) := by rw [hw]; exact hb
  have key := Any.slices_Sort_int lays189 b 0 cap l w (fun j hj => by
    have hj' : j < l.length := by simpa using hj
    constructor
    · have := fl_e1_get l rest j
      rw [dif_pos hj'] at this
      simp [World.cell?, hb', this, hj']
    · simp [World.frozen?, hb']) (by rw [hw]; exact hbl) (by omega)
  have key : Calls prog 66 #[.slice (some ⟨b, 0, none⟩) l.length cap] w _ := key
  refine Calls.mono key ?_
  rintro e w' ⟨he, n, os, hw'⟩
  refine ⟨.tuple #[], he, ?_, rfl, .inr ⟨b, rest, rfl, hB, ?_, by rw [srt_len]; exact h1, ?_⟩, ?_⟩
  · subst hw'; exact ⟨rfl, rfl, rfl⟩
  · subst hw'
    have hbs : b < w.heap.size := by rw [hw]; exact hbl
    show (_ ++ os : Array Obj)[b]? = _
    rw [Array.getElem?_append_left (by simp [Go.Sort.putRow, Go.Sort.mapBlock, Go.Sort.ahead]; exact hbs)]
    simp only [Go.Sort.putRow, Go.Sort.mapBlock, Go.Sort.ahead]
    rw [Array.getElem?_modify, if_pos rfl, hb']
    simp only [Option.map_some, Go.Sort.onCells]
    congr 2
    apply Array.ext_getElem?
    intro k
    have e := fl_e1_get (srt l) rest k
    have e0 := fl_e1_get l rest k
    have hsl := srt_len l
    simp only [Go.Sort.putCells, Array.getElem?_mapIdx, List.getElem?_toArray]
    rw [e, e0]
    by_cases hk : k < l.length
    · rw [dif_pos hk, dif_pos (by omega)]
      have hk2 : k < (srt l).length := by omega
      simp [srt, hk]
    · rw [dif_neg hk, dif_neg (by omega), hsl]
      cases rest[k - l.length]? <;> simp [hk]
  · have e1l : ∀ m : List Int, (fl e1 m).length = m.length := fun m => by rw [fl_length lene1]; omega
    rw [e1l] at h2 ⊢; rw [srt_len]; exact h2
  · subst hw'; subst hw
    refine ⟨?_, fun k hk hs => ?_⟩
    · show _ ≤ (_ ++ os : Array Obj).size
      simp [Go.Sort.putRow, Go.Sort.mapBlock, Go.Sort.ahead]
    · show (_ ++ os : Array Obj)[k]? = _
      have hkb : b ≠ k := fun e => hs ⟨by simp, e.symm⟩
      rw [Array.getElem?_append_left (by simp [Go.Sort.putRow, Go.Sort.mapBlock, Go.Sort.ahead]; exact hk)]
      simp [Go.Sort.putRow, Go.Sort.mapBlock, Go.Sort.ahead, Array.getElem?_modify, hkb]
end Go.Proofs
