import Derived.Test.YteeienbhmkiloaaGreatDoorW15
set_option linter.unusedSimpArgs false
set_option linter.unusedVariables false
namespace Go.Proofs
open Go.Lx Tryz

def PenAt (p : Nat) (R : Nat → Prop) (x : PenR) (M : Nat → Prop) (h : Hp) : Prop :=
  ∃ g G Rg, G.map (·.2) = x.l ∧ Bl h p [.pointer (some ⟨g, 0, none⟩), .int .i64 x.at_.row, .int .i64 x.at_.col, .bool x.at_.pend, .bool x.auto] 70 ∧ (oGrid g).At Rg G M h ∧ (R p ∧ ∀ b, Rg b → R b) ∧ ¬ Rg p ∧ ∀ b, R b → M b ∧ b < h.size
def oPen (p : Nat) : Oj PenR where
  At := PenAt p
  stab := by
    rintro R M M' W x h h' ⟨g', G, Rg, e, l, q, ⟨r0, r1⟩, n, m⟩ g s k hW
    exact ⟨g', G, Rg, e, k.bl (hW _ r0) l, (oGrid g').stab q g s k fun b hb => hW b (r1 b hb), ⟨r0, r1⟩, n, fun b hb => ⟨s b (m b hb).1, Nat.lt_of_lt_of_le (m b hb).2 k.size⟩⟩
  lt := by rintro R M x h ⟨g', G, Rg, e, l, q, r, n, m⟩ b hb; exact (m b hb).2
  mem := by rintro R M x h ⟨g', G, Rg, e, l, q, r, n, m⟩ b hb; exact (m b hb).1
  sh := by
    rintro R M M' x h ⟨g', G, Rg, e, l, q, ⟨r0, r1⟩, n, m⟩ hs hm
    exact ⟨g', G, Rg, e, l, (oGrid g').sh q hs fun b hb => hm b (r1 b hb), ⟨r0, r1⟩, n, fun b hb => ⟨hm b hb, (m b hb).2⟩⟩
def PenRg (p : Nat) (Rg : Nat → Prop) (b : Nat) : Prop := b = p ∨ Rg b
theorem pen_mk {p g : Nat} {G : PRows} {M Rg : Nat → Prop} {h : Hp} {x : PenR} (e : G.map (·.2) = x.l) (l : Bl h p [.pointer (some ⟨g, 0, none⟩), .int .i64 x.at_.row, .int .i64 x.at_.col, .bool x.at_.pend, .bool x.auto] 70) (mp : M p) (q : (oGrid g).At Rg G M h) (n : ¬ Rg p) : (oPen p).At (PenRg p Rg) x M h :=
  ⟨g, G, Rg, e, l, q, ⟨.inl rfl, fun _ h => .inr h⟩, n, fun b hb => by
    rcases hb with rfl | hb
    · exact ⟨mp, l.lt⟩
    · exact ⟨(oGrid g).mem q b hb, (oGrid g).lt q b hb⟩⟩
theorem pen_ge {p n : Nat} {Rg : Nat → Prop} (p0 : n ≤ p) (p1 : ∀ b, Rg b → n ≤ b) : ∀ b, PenRg p Rg b → n ≤ b := by
  rintro b (rfl | h)
  · exact p0
  · exact p1 b h
def newP (w hh : Int) : PenR := ⟨List.replicate (gridN hh) (newL w), ⟨0, 0, false⟩, true⟩
theorem pl70 : ∀ w, ((#[{ name := "G", type := 68, offset := 0, embedded := false, tag := "", pkgPath := "", byteOffset := 0 }, { name := "At", type := 29, offset := 1, embedded := false, tag := "", pkgPath := "", byteOffset := 8 }, { name := "Auto", type := 4, offset := 4, embedded := false, tag := "", pkgPath := "", byteOffset := 32 }] : Array Field).mapM (fun f => do return (f.offset, ← sizeOf f.type)) : Sem (Array (Nat × Nat))).run prog w = .ok (([(0, 1), (1, 3), (4, 1)] : List (Nat × Nat))).toArray w := fun _ => by kernel_rfl
theorem c_placeNew (N : Nat → Prop) (h : Hp) (hN : ∀ b, N b → b < h.size) (w : Int) (hh : Int)   : C prog 21 [.int .i64 w, .int .i64 hh] h (fun v h' => ∃ (pr : Nat) (Rr : Nat → Prop), v = .pointer (some ⟨pr, 0, none⟩) ∧ (∀ b, Rr b → h.size ≤ b) ∧ (oPen pr).At Rr (newP w hh) (fun b => N b ∨ Rr b) h' ∧ Ext h h') := by
  have st := St.init hN
  refine enter func21 rfl ntmps21 results21 rfl rfl ?_
  refine x_seq ?_
  refine x_region ?_
  refine r1 rfl (p_as rfl) ?_
  refine o_nil ?_
  refine x_seq ?_
  refine x_region ?_
  refine r1 rfl (p_mv rfl) ?_
  refine r1 rfl (p_mv rfl) ?_
  refine o1 rfl (s_call call35 rfl (c_gridNew N h st.lt w hh) ?_)
  rintro _ hp1 ⟨pbG, RbG, rfl, goG, obG, x1⟩
  obtain ⟨M1, ab1, obG, st1⟩ := St.ob st x1 obG goG
  have gnG : ∀ b, RbG b → h.size ≤ b := fun b hb => Nat.le_trans st.kp.size (goG b hb)
  have st := st1
  refine r1 rfl (p_bs runUnderlying70 zeroValue70 pl70 rfl) ?_
  show O _ _ _ _ _ ((_, .agg #[_, _, _, _, _]) :: _) _ _
  refine o1 rfl (s_box rfl rfl ?_)
  intro b9 hb2 n2
  obtain ⟨M2, nm2⟩ := nm (M := M1) n2
  have gb9 : h.size ≤ b9 := n2.ge st.kp
  have nob9_obG : ¬ RbG b9 := fun hh => by have := Oj.lt _ obG _ hh; have := n2.at_; omega
  have obG := Oj.gx obG (nm2.gr n2) nm2.sub (n2.ext)
  have st := st.new n2 nm2
  have lb9 := n2.bl
  have mb9 := nm2.mem
  refine r1 rfl (p_as rfl) ?_
  refine o_nil ?_
  refine x_ret (fin1 rfl ?_)
  obtain ⟨G, eG, og⟩ := obG
  have op := pen_mk (x := newP w hh) eG lb9 mb9 og nob9_obG
  have gp := pen_ge gb9 gnG
  exact ⟨b9, (PenRg b9 RbG), rfl, gp, (Oj.ret op st), st.x⟩
end Go.Proofs
