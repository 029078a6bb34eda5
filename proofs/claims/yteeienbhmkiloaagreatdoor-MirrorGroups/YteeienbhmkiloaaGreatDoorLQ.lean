import Derived.Test.YteeienbhmkiloaaGreatDoorLZ
set_option linter.unusedSimpArgs false
set_option linter.unusedVariables false
namespace Go.Lx
/-- A range over a function that calls for no round. -/
theorem x_range0 {P : Program} {n : Nat} {E : Env} {h : Hp} {Q : Post} {g : Operand} {ps : Array Tmp} {assign body : Code} {gf : Nat} {lb : List Value} (hk : look E MK = none) (hg : ev E g = some (.func (.func gf) #[] lb.toArray))
    (eg : ∀ args w, (callFunc gf args).run P w = .ok (.enter gf args) w)
    (c : ∀ l h1, Ext h h1 → C P gf (.func (.yield l) #[] #[] :: lb) h1 (fun _ h' => Ext h1 h'))
    (q : ∀ (r : Nat) h2, Ext h h2 → h.size ≤ r → h2[r]? = some (.deferred (some [])) → Q .normal ((MK, .int .i64 (r : Int)) :: E) h2) : X none P n (.rangeFunc g ps assign body) E h Q :=
  ⟨fun a w f hw => by
    subst hw
    refine wpIn_rangeFunc ?_
    intro fn hfn
    obtain ⟨rec, hrec⟩ : ∃ rec : LoopState → Option Code → Loop, rec = fun st pe => { state := st, pending := pe, fn, tmps := a.tmps, params := ps, assign, body, defers := w.heap.size } := ⟨_, rfl⟩
    obtain ⟨W1, hW1⟩ : ∃ W1, (w.alloc (.deferred (some []))).alloc (.loop (rec .ready none)) = W1 := ⟨_, rfl⟩
    have hsz : W1.heap.size = w.heap.size + 2 := by rw [← hW1]; simp
    have hL1 : W1.heap[w.heap.size + 1]? = some (.loop (rec .ready none)) := by
      rw [← hW1]; have := World.alloc_heap_new (w.alloc (.deferred (some []))) (.loop (rec .ready none)); rwa [World.size_alloc] at this
    have hK1 : W1.heap[w.heap.size]? = some (.deferred (some [])) := by
      rw [← hW1]; exact (RowKit.Below.heap_alloc _ _ _ (by simp)).trans (World.alloc_heap_new w _)
    have hx : Ext w.heap W1.heap := ⟨by rw [hsz]; omega, fun k hk _ => by
      rw [← hW1]
      exact (RowKit.Below.heap_alloc _ _ _ (by simp; omega)).trans (RowKit.Below.heap_alloc _ _ _ hk)⟩
    have hio : Io w W1 := by rw [← hW1]; exact ⟨rfl, rfl, rfl⟩
    refine ⟨w.heap.size + 1, [{ target := .collected w.heap.size, args := #[] }], W1, { target := .fn (.func gf) lb.toArray, args := #[.func (.yield (w.heap.size + 1)) #[] #[]] }, W1, gf,
      #[.func (.yield (w.heap.size + 1)) #[] #[]] ++ lb.toArray, W1, ?_, ?_, ?_, ?_, fun h => (by cases h), ?_⟩
    · rw [← hW1, hrec]; exact run_enterLoop_outer _ _ _ _ _
    · simp only [resolve, f.ev hg]
      simp [go_sem]
    · intro f' hf'; trivial
    · simp [invoke, go_sem, eg]
    · have ea : (.func (.yield (w.heap.size + 1)) #[] #[] :: lb : List Value).toArray = #[.func (.yield (w.heap.size + 1)) #[] #[]] ++ lb.toArray := by simp
      have hc := (c (w.heap.size + 1) W1.heap hx).run W1 rfl
      rw [ea] at hc
      refine (calls_fw.2 hc).mono ?_
      rintro e W2 ⟨v, rfl, i, x⟩
      have hl2 : W2.heap[w.heap.size + 1]? = some (.loop (rec .ready none)) := (x.keep _ (by rw [hsz]; omega) (fun h => h)).trans hL1
      have hd2 : W2.heap[w.heap.size]? = some (.deferred (some [])) := (x.keep _ (by rw [hsz]; omega) (fun h => h)).trans hK1
      refine ⟨none, W2.putObj (w.heap.size + 1) (.loop (rec .exhausted none)), ?_, ?_⟩
      · have := run_endLoop (P := P) hl2 (by rw [hrec]; simp); rw [hrec] at this ⊢; exact this
      · have hx2 : Ext w.heap (W2.putObj (w.heap.size + 1) (.loop (rec .exhausted none))).heap := ⟨by
          have := x.size
          simp [World.putObj]; omega, fun k hk _ => by
          refine (World.putObj_heap_other (by omega)).trans ((x.keep _ (by rw [hsz]; omega) (fun h => h)).trans (hx.keep k hk fun h => h))⟩
        refine ⟨_, ?_, ?_, q w.heap.size _ hx2 (Nat.le_refl _) ((World.putObj_heap_other (by omega)).trans hd2)⟩
        · refine ⟨f.size, f.ms, fun v hv => ?_, ?_, fun t u ht hb => ?_⟩
          · simp only [look] at hv
            exact ⟨_, _, (Option.some.inj hv).symm⟩
          · simp only [f.defers, mks, hk]
            simp [look]
          · exact f.get t u (by rwa [look_ne (by cases hh : Nat.beq MK t with
            | false => rfl
            | true => have e := Nat.eq_of_beq_eq_true hh; subst e; cases hb)] at ht) hb
        · exact (hio.trans i).trans ⟨rfl, rfl, rfl⟩⟩
section
variable {P : Program} {E : Env} {h : Hp} {ty : TypeId}
/-- A field of a struct that is no place. -/
theorem p_fd {t : TypeId} {fs : Array Field} {j : Nat} {fd : Field} {x : Operand} {vs : Array Value} {v : Value} (hu : ∀ w, (underlying t).run P w = .ok (.struct fs) w) (hf : fs[j]? = some fd) (hg : ∀ w, (isAgg fd.type).run P w = .ok false w) (hx : ev E x = some (.agg vs)) (hv : vs[fd.offset]? = some v) : SP P (.field t x j) ty E h v :=
  ⟨fun n a' w o ho ht f hw => by simp [execOp, ho, f.ev hx, Instr.field, hu, hf, part, hg, hv, asAgg]⟩
theorem p_fda {t : TypeId} {fs : Array Field} {j k : Nat} {fd : Field} {x : Operand} {vs : Array Value} {us : List Value} (hu : ∀ w, (underlying t).run P w = .ok (.struct fs) w) (hf : fs[j]? = some fd) (hg : ∀ w, (isAgg fd.type).run P w = .ok true w) (hz : ∀ w, (sizeOf fd.type).run P w = .ok k w) (hx : ev E x = some (.agg vs)) (hv : vs.extract fd.offset (fd.offset + k) = us.toArray) : SP P (.field t x j) ty E h (.agg us.toArray) :=
  ⟨fun n a' w o ho ht f hw => by simp [execOp, ho, f.ev hx, Instr.field, hu, hf, part, hg, hz, hv, asAgg]⟩
end
/-- The block of a range's mark. -/
def Db (h : Hp) (r : Nat) : Prop := h[r]? = some (.deferred (some []))
theorem Db.lt {h : Hp} {r : Nat} (d : Db h r) : r < h.size := (Array.getElem?_eq_some_iff.1 d).1
theorem Kp.db {S : Nat → Prop} {h h' : Hp} (x : Kp S h h') {r : Nat} (hs : ¬ S r) (d : Db h r) : Db h' r := (x.keep r d.lt hs).trans d
theorem Db.lift {h h' : Hp} {r : Nat} (d : Db h r) (x : Ext h h') : Db h' r := Kp.db x (fun h => h) d
theorem nmr {M : Nat → Prop} {h : Hp} {r : Nat} (hr : h.size ≤ r) : ∃ M', Nm M h r M' :=
  ⟨fun c => M c ∨ c = r, fun c hc => .inl hc, fun c hc h => h.elim id fun e => by omega, .inr rfl, fun c h => h⟩
theorem Nm.gx {M M' : Nat → Prop} {h h' : Hp} {r : Nat} (m : Nm M h r M') (x : Ext h h') : Gr M h M' h' := ⟨Kp.of_ext x, m.old⟩
theorem St.mark {N S M M' : Nat → Prop} {h0 h h' : Hp} {r : Nat} (s : St N h0 S M h) (x : Ext h h') (m : Nm M h r M') (d : Db h' r) : St N h0 S M' h' :=
  ⟨s.kp.tr x, fun c hc hm => s.inp c hc (m.old c (Nat.lt_of_lt_of_le hc s.kp.size) hm), fun c hc => m.sub c (s.sub c hc),
    fun c hc => (m.only c hc).elim (fun h => Nat.lt_of_lt_of_le (s.lt c h) x.size) (fun h => h ▸ d.lt), s.sN⟩
/-- What is behind the leaving of a function whose range's mark is r. -/
theorem Db.lv {E : Env} {h : Hp} {r : Nat} {k : IntKind} (d : Db h r) (hk : look E MK = some (.int k (r : Int))) : Lv E h (h.setIfInBounds r (.deferred none)) :=
  Lv.mark hk (by rw [Int.toNat_natCast]; exact d)
theorem Db.gm {N S M : Nat → Prop} {h0 h : Hp} {r : Nat} (d : Db h r) (m : M r) (s : St N h0 S M h) : Gm (fun b => b = r) M h M (h.setIfInBounds r (.deferred none)) :=
  ⟨⟨by simp, fun k hk hn => by rw [Array.getElem?_setIfInBounds, if_neg (fun e => hn e.symm)]⟩, fun b e => by subst e; exact m, fun _ h => h, fun _ _ h => h, fun b hb => by simpa using s.lt b hb⟩
end Go.Lx
