import Derived.Test.YtpnbdejdkllflaaG5
import Derived.Test.YtpnbdejdkllflaaG2
import Derived.MapKept
import Derived.Stop.BytesEq
set_option linter.unusedVariables false
namespace Go.Lx

/-! ### Maps -/
/-- A map's entries. -/
def Mp (h : Hp) (r : Nat) (es : List MapEntry) (ck : Nat) : Prop := h[r]? = some (.map es.toArray ck)
theorem Mp.kp {S : Nat → Prop} {h h' : Hp} {r ck : Nat} {es : List MapEntry} (m : Mp h r es ck) (x : Kp S h h') (hs : ¬ S r) : Mp h' r es ck := x.obj hs m
theorem Mp.lift {h h' : Hp} {r ck : Nat} {es : List MapEntry} (m : Mp h r es ck) (x : Ext h h') : Mp h' r es ck := m.kp x fun h => h
theorem Mp.lt {h : Hp} {r ck : Nat} {es : List MapEntry} (m : Mp h r es ck) : r < h.size := lt_of_some m
theorem Mp.ne {h : Hp} {r ck b : Nat} {es : List MapEntry} {cs : List Value} {T : TypeId} (m : Mp h r es ck) (l : Bl h b cs T) : b ≠ r := by
  intro e; subst e; unfold Mp at m; unfold Bl at l; rw [m] at l; simp at l
theorem Mp.nin {h h' : Hp} {r ck b : Nat} {o : Obj} {es : List MapEntry} (m : Mp h r es ck) (n : New h h' b o) : b ≠ r := by have := m.lt; have := n.at_; omega
theorem Mp.updn {h h' : Hp} {r ck b : Nat} {es : List MapEntry} {cs : List Value} {T : TypeId} (m : Mp h r es ck) (u : Upd h h' b cs T) (hn : b ≠ r) : Mp h' r es ck := m.kp u.kp fun e => hn e.symm

section
variable {P : Program} {E : Env} {h : Hp} {K : Value → Hp → Prop} {ty : TypeId}
theorem s_mm {t : TypeId} (q : ∀ b h', New h h' b (.map #[] 0) → K (.map (some b)) h') : S P (.makeMap t none) ty E h K :=
  S.val fun n a' w o ho ht f hw => by
    refine ⟨.map (some w.heap.size), { w with heap := w.heap.push (.map #[] 0) }, ?_, ⟨rfl, rfl, rfl⟩, q w.heap.size _ ⟨by rw [hw], by rw [hw]⟩⟩
    simp [execOp, ho, Instr.makeMap, newObj]
    rfl
theorem p_lk {t kt et : TypeId} {m k : Operand} {r ck : Nat} {es : List MapEntry} {kv z : Value} {res : Option (Nat × Value)} (hu : ∀ w, (underlying t).run P w = .ok (.map kt et) w)
    (hc : ∀ e w, (Instr.checkKey e 10000 kt kv).run P w = .ok () w) (hf : ∀ w, (Instr.findKey kt kv es).run P w = .ok res w) (hz : ∀ w, (zeroValue et).run P w = .ok z w)
    (hm : ev E m = some (.map (some r))) (hk : ev E k = some kv) (mp : Mp h r es ck) : SP P (.lookup t m k true) ty E h (.tuple #[(res.map (·.2)).getD z, .bool res.isSome]) :=
  ⟨fun n a w o ho ht f hw => by
    subst hw
    have hb : w.heap[r]? = some (.map es.toArray ck) := mp
    have hg : (getObj r).run P w = .ok (.map es.toArray ck) w := by simp [getObj, Sem.run, hb]
    cases res with
    | none => simp [execOp, ho, f.ev hm, f.ev hk, Instr.lookup, hu, hg, hc, hf, hz]
    | some p => simp [execOp, ho, f.ev hm, f.ev hk, Instr.lookup, hu, hg, hc, hf, hz]⟩
theorem s_mu {t kt et : TypeId} {m k v : Operand} {r ck : Nat} {es : List MapEntry} {kv vv : Value} (hu : ∀ w, (underlying t).run P w = .ok (.map kt et) w)
    (hc : ∀ e w, (Instr.checkKey e 10000 kt kv).run P w = .ok () w) (hf : ∀ w, (Instr.findKey kt kv es).run P w = .ok none w)
    (hm : ev E m = some (.map (some r))) (hk : ev E k = some kv) (hv : ev E v = some vv) (mp : Mp h r es ck)
    (q : ∀ h', Mp h' r (es ++ [⟨kv, vv, ck⟩]) (ck + 1) → Kp (· = r) h h' → K undef h') : S P (.mapUpdate t m k v) ty E h K :=
  S.skip fun n a w o ho ht f hw => by
    subst hw
    have hb : w.heap[r]? = some (.map es.toArray ck) := mp
    have hg : (getObj r).run P w = .ok (.map es.toArray ck) w := by simp [getObj, Sem.run, hb]
    have hs := MapKept.run_setObj_map (P := P) (.map (es.toArray.push ⟨kv, vv, ck⟩) (ck + 1)) hb
    have hlt := mp.lt
    refine ⟨{ w with heap := w.heap.setIfInBounds r (.map (es.toArray.push ⟨kv, vv, ck⟩) (ck + 1)) }, ?_, ⟨rfl, rfl, rfl⟩, q _ ?_ ⟨by simp, fun k _ hk => ?_⟩⟩
    · simp [execOp, ho, f.ev hm, f.ev hk, f.ev hv, Instr.mapUpdate, hu, hg, hc, hf] at hs ⊢
      simp [hs]
    · simp [Mp, hlt]
    · show (w.heap.setIfInBounds r _)[k]? = _
      rw [Array.getElem?_setIfInBounds, if_neg (fun e => hk e.symm)]
end

/-! Keys that are ints. -/
def fI (k : Int) : List (Int × Int) → Nat → Option (Nat × Int)
  | [], _ => none
  | (k', v) :: r, i => if k = k' then some (i, v) else fI k r (i + 1)
def entI (kd vd : IntKind) : Nat → List (Int × Int) → List MapEntry
  | _, [] => []
  | b, (k, v) :: r => ⟨.int kd k, .int vd v, b⟩ :: entI kd vd (b + 1) r
theorem entI_snoc (kd vd : IntKind) (k v : Int) : ∀ (L : List (Int × Int)) (b : Nat), entI kd vd b (L ++ [(k, v)]) = entI kd vd b L ++ [⟨.int kd k, .int vd v, b + L.length⟩]
  | [], b => rfl
  | (k', v') :: r, b => by
    have := entI_snoc kd vd k v r (b + 1)
    simp only [List.cons_append, entI, this, List.length_cons]
    rw [show b + 1 + r.length = b + (r.length + 1) by omega]
theorem findNow_entI (kd vd : IntKind) (k : Int) : ∀ (L : List (Int × Int)) (b i : Nat), Instr.findNow (.int kd) (.int kd k) (entI kd vd b L) i = some ((fI k L i).map fun p => (p.1, .int vd p.2))
  | [], _, _ => rfl
  | (k', v) :: r, b, i => by
    simp only [entI, Instr.findNow, Instr.sameNow, fI, if_true]
    by_cases h : k = k'
    · simp [h]
    · have hb : (k == k') = false := by simpa using h
      simp only [hb, h, if_false]
      exact findNow_entI kd vd k r (b + 1) (i + 1)
theorem find_int {P : Program} {kt : TypeId} {kd vd : IntKind} (hk : ∀ w, (underlying kt).run P w = .ok (.int kd) w) (k : Int) (L : List (Int × Int)) (b : Nat) (w : World) :
    (Instr.findKey kt (.int kd k) (entI kd vd b L)).run P w = .ok ((fI k L 0).map fun p => (p.1, .int vd p.2)) w := by
  simp [Instr.findKey, hk, findNow_entI]
theorem check_int {P : Program} {kt : TypeId} {kd : IntKind} (hk : ∀ w, (underlying kt).run P w = .ok (.int kd) w) (k : Int) (e : Bool) (w : World) : (Instr.checkKey e 10000 kt (.int kd k)).run P w = .ok () w := by
  show (Instr.checkKey e (9999 + 1) kt (.int kd k)).run P w = .ok () w
  unfold Instr.checkKey
  simp [hk]

/-! Keys that are rows of ints. -/
def iv (kd : IntKind) (x : Int) : Value := .int kd x
theorem check_row {P : Program} {kt e : TypeId} {kd : IntKind} {n : Nat} (hu : ∀ w, (underlying kt).run P w = .ok (.array n e) w) (he : ∀ w, (underlying e).run P w = .ok (.int kd) w) (hz : ∀ w, (sizeOf e).run P w = .ok 1 w)
    (xs : List Int) (hx : xs.length = n) (em : Bool) (w : World) : (Instr.checkKey em 10000 kt (.agg (xs.map (iv kd)).toArray)).run P w = .ok () w := by
  show (Instr.checkKey em (9998 + 1 + 1) kt _).run P w = .ok () w
  rw [Instr.checkKey]
  simp only [Sem.run_bind, hu, Result.andThen_ok, Std.Legacy.Range.forIn_eq_forIn_range', Std.Legacy.Range.size, Nat.sub_zero, Nat.add_sub_cancel, Nat.div_one]
  have hl : ∀ i ∈ List.range' 0 n 1, i < n := fun i hi => by simpa using (List.mem_range'_1.1 hi).2
  generalize List.range' 0 n 1 = l at hl ⊢
  induction l with
  | nil => simp
  | cons i l ih =>
    have hi : i < n := hl i (by simp)
    have px : (part e (xs.map (iv kd)).toArray (i * 1)).run P w = .ok (iv kd (xs.getD i 0)) w := by
      simp [part, isAgg, he, List.getD, List.getElem?_eq_getElem (show i < xs.length by omega)]
    have pc : (Instr.checkKey em (9998 + 1) e (iv kd (xs.getD i 0))).run P w = .ok () w := by
      unfold Instr.checkKey; simp [he, iv]
    simp only [List.forIn_cons, Sem.run_bind, hz, px, pc, Result.andThen_ok, Sem.run_pure]
    exact ih fun j hj => hl j (by simp [hj])

theorem run_equal_int {P : Program} {e : TypeId} {kd : IntKind} (he : ∀ w, (underlying e).run P w = .ok (.int kd) w) (d : Nat) (x y : Int) (w : World) : (Op.equalIn (d + 1) e (iv kd x) (iv kd y)).run P w = .ok (decide (x = y)) w := by
  unfold Op.equalIn
  simp [he, iv]
  by_cases h : x = y <;> simp [h]

theorem all_range_dec : ∀ (xs ys : List Int), xs.length = ys.length → (List.range xs.length).all (fun i => decide (xs.getD i 0 = ys.getD i 0)) = decide (xs = ys)
  | [], [], _ => rfl
  | x :: xs, y :: ys, h => by
    have ih := all_range_dec xs ys (by simpa using h)
    rw [List.length_cons, List.range_succ_eq_map, List.all_cons, List.all_map]
    simp only [List.getD_cons_zero, Function.comp_def, List.getD_cons_succ, ih]
    by_cases h1 : x = y <;> by_cases h2 : xs = ys <;> simp [h1, h2]
  | [], _ :: _, h => by simp at h
  | _ :: _, [], h => by simp at h

theorem equal_row {P : Program} {kt e : TypeId} {kd : IntKind} {n : Nat} (hu : ∀ w, (underlying kt).run P w = .ok (.array n e) w) (he : ∀ w, (underlying e).run P w = .ok (.int kd) w) (hz : ∀ w, (sizeOf e).run P w = .ok 1 w)
    (xs ys : List Int) (hx : xs.length = n) (hy : ys.length = n) (w : World) : (Op.equal kt (.agg (xs.map (iv kd)).toArray) (.agg (ys.map (iv kd)).toArray)).run P w = .ok (decide (xs = ys)) w := by
  show (Op.equalIn (9998 + 1 + 1) kt _ _).run P w = _
  rw [← all_range_dec xs ys (hx.trans hy.symm), hx, List.range_eq_range', Op.equalIn]
  simp only [Sem.run_bind, hu, Result.andThen_ok, hz, Std.Legacy.Range.forIn_eq_forIn_range', Std.Legacy.Range.size, Nat.sub_zero, Nat.add_sub_cancel, Nat.div_one]
  have hl : ∀ i ∈ List.range' 0 n 1, i < n := fun i hi => by simpa using (List.mem_range'_1.1 hi).2
  generalize List.range' 0 n 1 = l at hl ⊢
  induction l with
  | nil => simp
  | cons i l ih =>
    have hi : i < n := hl i (by simp)
    have px : (part e (xs.map (iv kd)).toArray (i * 1)).run P w = .ok (iv kd (xs.getD i 0)) w := by
      simp [part, isAgg, he, List.getD, List.getElem?_eq_getElem (show i < xs.length by omega)]
    have py : (part e (ys.map (iv kd)).toArray (i * 1)).run P w = .ok (iv kd (ys.getD i 0)) w := by
      simp [part, isAgg, he, List.getD, List.getElem?_eq_getElem (show i < ys.length by omega)]
    have pe := run_equal_int he 9998 (xs.getD i 0) (ys.getD i 0) w
    simp only [List.forIn_cons, Sem.run_bind, px, py, pe, Result.andThen_ok, List.all_cons]
    cases hb : decide (xs.getD i 0 = ys.getD i 0)
    · simp
    · simp only [Bool.not_true, Bool.false_eq_true, if_false, Sem.run_pure, Result.andThen_ok, Bool.true_and]
      exact ih fun j hj => hl j (by simp [hj])

def fA (x : List Int) : List (List Int) → Nat → Option Nat
  | [], _ => none
  | y :: r, i => if x = y then some i else fA x r (i + 1)
/-- The entries whose keys are rows, numbered as they came. -/
def entA (kd vd : IntKind) : Nat → List (List Int) → List MapEntry
  | _, [] => []
  | b, x :: r => ⟨.agg (x.map (iv kd)).toArray, .int vd (b : Int), b⟩ :: entA kd vd (b + 1) r
theorem entA_snoc (kd vd : IntKind) (x : List Int) : ∀ (L : List (List Int)) (b : Nat), entA kd vd b (L ++ [x]) = entA kd vd b L ++ [⟨.agg (x.map (iv kd)).toArray, .int vd ((b + L.length : Nat) : Int), b + L.length⟩]
  | [], b => rfl
  | y :: r, b => by
    have := entA_snoc kd vd x r (b + 1)
    simp only [List.cons_append, entA, this, List.length_cons]
    rw [show b + 1 + r.length = b + (r.length + 1) by omega]
theorem find_asking {P : Program} {kt e : TypeId} {kd vd : IntKind} {n : Nat} (hu : ∀ w, (underlying kt).run P w = .ok (.array n e) w) (he : ∀ w, (underlying e).run P w = .ok (.int kd) w) (hz : ∀ w, (sizeOf e).run P w = .ok 1 w)
    (x : List Int) (hx : x.length = n) (w : World) : ∀ (L : List (List Int)) (i : Nat), (∀ y ∈ L, y.length = n) →
    (Instr.findAsking kt (.agg (x.map (iv kd)).toArray) (entA kd vd i L) i).run P w = .ok ((fA x L i).map fun j => (j, .int vd (j : Int))) w
  | [], i, _ => rfl
  | y :: r, i, hy => by
    have ih := find_asking (vd := vd) hu he hz x hx w r (i + 1) fun y h => hy y (List.mem_cons_of_mem _ h)
    simp only [entA, Instr.findAsking, Sem.run_bind, equal_row hu he hz x y hx (hy y List.mem_cons_self) w, Result.andThen_ok, fA]
    by_cases h : x = y
    · simp [h]
    · simp [h, ih]
theorem find_row {P : Program} {kt e : TypeId} {kd vd : IntKind} {n : Nat} (hu : ∀ w, (underlying kt).run P w = .ok (.array n e) w) (he : ∀ w, (underlying e).run P w = .ok (.int kd) w) (hz : ∀ w, (sizeOf e).run P w = .ok 1 w)
    (x : List Int) (hx : x.length = n) (L : List (List Int)) (hL : ∀ y ∈ L, y.length = n) (w : World) : (Instr.findKey kt (.agg (x.map (iv kd)).toArray) (entA kd vd 0 L)).run P w = .ok ((fA x L 0).map fun j => (j, .int vd (j : Int))) w := by
  cases L with
  | nil => simp [Instr.findKey, hu, entA, Instr.findNow, fA]
  | cons y r =>
    have h1 : Instr.findNow (.array n e) (.agg (x.map (iv kd)).toArray) (entA kd vd 0 (y :: r)) 0 = none := by simp [entA, Instr.findNow, Instr.sameNow]
    simp only [Instr.findKey, Sem.run_bind, hu, Result.andThen_ok, h1]
    exact find_asking hu he hz x hx w (y :: r) 0 hL
end Go.Lx
