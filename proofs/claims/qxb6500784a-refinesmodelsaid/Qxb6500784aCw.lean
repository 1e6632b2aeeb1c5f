import Derived.Test.Qxb6500784aWb
namespace Go.Proofs.Qxb6500784a
open Go.RowKit

/-! ### bundlem.Copy -/
def PtL (x y : World) (l : Led0) (sv : List Led0) (V : List Value) (B : List Nat) : Prop := ∃ sw m s, sw.map (·.1) = sv ∧ V = l.vals m s ∧ CV y 50 326 l.fl (ledW sw) [m] s ∧ B = blks ([m] ++ s :: (ledW sw).flatMap (·.2)) ∧ ∀ j, j ∈ B → x.heap.size ≤ j ∧ j < y.heap.size
def PtB (x y : World) (l : Box0) (sv : List Box0) (V : List Value) (B : List Nat) : Prop := ∃ sw u v s, sw.map (·.1) = sv ∧ V = l.vals u v s ∧ CV y 54 5 l.fl (boxW sw) [u, v] s ∧ B = blks ([u, v] ++ s :: (boxW sw).flatMap (·.2)) ∧ ∀ j, j ∈ B → x.heap.size ≤ j ∧ j < y.heap.size
theorem PtL.r {x y : World} {l : Led0} {sv : List Led0} {V : List Value} {B : List Nat} (h : PtL x y l sv V B) {j : Nat} (hj : j ∈ B) : x.heap.size ≤ j ∧ j < y.heap.size := by obtain ⟨_, _, _, _, _, _, _, h⟩ := h; exact h j hj
theorem PtB.r {x y : World} {l : Box0} {sv : List Box0} {V : List Value} {B : List Nat} (h : PtB x y l sv V B) {j : Nat} (hj : j ∈ B) : x.heap.size ≤ j ∧ j < y.heap.size := by obtain ⟨_, _, _, _, _, _, _, _, h⟩ := h; exact h j hj
theorem cpL {w : World} {l : Led0} {sv : List Led0} {V : List Value} {B : List Nat} (h : ∃ sw m s, sw.map (·.1) = sv ∧ V = l.vals m s ∧ CV w 50 326 l.fl (ledW sw) [m] s ∧ B = blks ([m] ++ s :: (ledW sw).flatMap (·.2)) ∧ l.Ok ∧ ∀ x, x ∈ sv → x.Ok) (hs : SmallL l sv) (x : World) (k : Below w.heap.size w x) :
    Calls Try.prog 76 #[.agg V.toArray] x fun e y => ∃ V' B', e = .returned (.agg V'.toArray) ∧ V'.length = 326 ∧ Below x.heap.size x y ∧ PtL x y l sv V' B' := by
  obtain ⟨sw, m, s, h1, rfl, h3, -, h5, h6⟩ := h
  have e : ∀ p, p ∈ sw → p.1 ∈ sv := fun p hp => by rw [← h1]; exact List.mem_map.2 ⟨p, hp, rfl⟩
  have hl : sw.length = sv.length := by rw [← h1]; simp
  refine (copyL_any x l sw m s h5 (fun p hp => ⟨h6 _ (e p hp), hs.2.1 _ (e p hp)⟩) (h3.keep (S := fun _ => False) (Ex.of k) (fun _ _ z => z)) hs.1 (by rw [hl]; exact hs.2.2)).mono ?_
  rintro e y ⟨m', s', sw', rfl, hb, hsw, hcv, hfr, -⟩
  rw [h1] at hsw
  exact ⟨_, _, rfl, Led0.len h5 _ _, hb, sw', m', s', hsw, rfl, hcv, rfl, fun j hj => ⟨hfr j hj, hcv.lt hj⟩⟩
theorem cpB {w : World} {l : Box0} {sv : List Box0} {V : List Value} {B : List Nat} (h : ∃ sw u v s, sw.map (·.1) = sv ∧ V = l.vals u v s ∧ CV w 54 5 l.fl (boxW sw) [u, v] s ∧ B = blks ([u, v] ++ s :: (boxW sw).flatMap (·.2)) ∧ l.Ok ∧ ∀ x, x ∈ sv → x.Ok) (hs : SmallB l sv) (x : World) (k : Below w.heap.size w x) :
    Calls Try.prog 77 #[.agg V.toArray] x fun e y => ∃ V' B', e = .returned (.agg V'.toArray) ∧ V'.length = 5 ∧ Below x.heap.size x y ∧ PtB x y l sv V' B' := by
  obtain ⟨sw, u, v, s, h1, rfl, h3, -, h5, h6⟩ := h
  have e : ∀ p, p ∈ sw → p.1 ∈ sv := fun p hp => by rw [← h1]; exact List.mem_map.2 ⟨p, hp, rfl⟩
  have hl : sw.length = sv.length := by rw [← h1]; simp
  refine (copyB_any x l sw u v s (h3.keep (S := fun _ => False) (Ex.of k) (fun _ _ z => z)) hs.1 (fun p hp => hs.2.1 _ (e p hp)) (by rw [hl]; exact hs.2.2)).mono ?_
  rintro e y ⟨u', v', s', sw', rfl, hb, hsw, hcv, hfr, -⟩
  rw [h1] at hsw
  exact ⟨_, _, rfl, rfl, hb, sw', u', v', s', hsw, rfl, hcv, rfl, fun j hj => ⟨hfr j hj, hcv.lt hj⟩⟩
theorem PtL.below {x y z : World} {l : Led0} {sv : List Led0} {V : List Value} {B : List Nat} (h : PtL x y l sv V B) (k : Below y.heap.size y z) : PtL x z l sv V B := by
  obtain ⟨a, b, c, d, e, f, g, h⟩ := h
  exact ⟨a, b, c, d, e, f.keep (S := fun _ => False) (Ex.of k) (fun _ _ e => e), g, fun j hj => ⟨(h j hj).1, Nat.lt_of_lt_of_le (h j hj).2 k.size⟩⟩
theorem PtB.below {x y z : World} {l : Box0} {sv : List Box0} {V : List Value} {B : List Nat} (h : PtB x y l sv V B) (k : Below y.heap.size y z) : PtB x z l sv V B := by
  obtain ⟨a, b, c, d, e, f, g, i, h⟩ := h
  exact ⟨a, b, c, d, e, f, g.keep (S := fun _ => False) (Ex.of k) (fun _ _ e => e), i, fun j hj => ⟨(h j hj).1, Nat.lt_of_lt_of_le (h j hj).2 k.size⟩⟩
theorem PtL.one {x y : World} {l : Led0} {sv : List Led0} {V : List Value} {B : List Nat} (h : PtL x y l sv V B) : ∀ u ∈ V, u.oneCell' = true := by
  obtain ⟨sw, m, s, _, rfl, hc, _, _⟩ := h
  obtain ⟨_, _, e1⟩ := own_form (hc.fl.2 0 _ m rfl rfl)
  obtain ⟨_, _, e2⟩ := own_form hc.sl
  intro u hu
  rw [e1, e2] at hu
  simp only [Led0.vals, List.mem_cons, List.mem_append, List.not_mem_nil, or_false] at hu
  rcases hu with rfl | hu | hu | rfl | rfl | rfl | rfl | rfl
  · rfl
  · obtain ⟨z, _, rfl⟩ := List.mem_map.1 hu; rfl
  · obtain ⟨z, _, rfl⟩ := List.mem_map.1 hu; rfl
  all_goals rfl
theorem PtB.one {x y : World} {l : Box0} {sv : List Box0} {V : List Value} {B : List Nat} (h : PtB x y l sv V B) : ∀ u ∈ V, u.oneCell' = true := by
  obtain ⟨sw, o, i, s, _, rfl, hc, _, _⟩ := h
  obtain ⟨_, _, e1⟩ := own_form (hc.fl.2 0 _ o rfl rfl)
  obtain ⟨_, _, e3⟩ := own_form (hc.fl.2 1 _ i rfl rfl)
  obtain ⟨_, _, e2⟩ := own_form hc.sl
  intro u hu
  rw [e1, e2, e3] at hu
  simp only [Box0.vals, List.mem_cons, List.not_mem_nil, or_false] at hu
  rcases hu with rfl | rfl | rfl | rfl | rfl <;> rfl
/-- The copied parts make a world. -/
theorem wv_of {w w0 x1 x2 x3 x4 x5 z : World} {P : Pr} {Va Vb Vc Vd Ve Ua Ub Uc Ud Ue : List Value} {f : Nat → List Nat} {Ba Bb Bc Bd Be : List Nat} (h : WV w P Va Vb Vc Vd Ve f) (h0 : w.heap.size ≤ w0.heap.size)
    (pa : PtL w0 x1 P.la P.sa Ua Ba) (pb : PtL x1 x2 P.lb P.sb Ub Bb) (pc : PtB x2 x3 P.ba P.ta Uc Bc) (pd : PtB x3 x4 P.bb P.tb Ud Bd) (pe : PtB x4 x5 P.b1 P.t1 Ue Be)
    (k1 : Below x1.heap.size x1 x2) (k2 : Below x2.heap.size x2 x3) (k3 : Below x3.heap.size x3 x4) (k4 : Below x4.heap.size x4 x5) {q : Nat} (ex : Ex (fun j => j = q) x5 z) (hq : q < w0.heap.size) (k0 : Below w0.heap.size w0 x1) :
    ∃ f', WV z P Ua Ub Uc Ud Ue f' ∧ ∀ i, i < 5 → ∀ k, k ∈ f' i → w.heap.size ≤ k := by
  have r0 := k0.size
  have r1 := k1.size
  have r2 := k2.size
  have r3 := k3.size
  have r4 := k4.size
  obtain ⟨a1, a2, a3, a4, a5, a6, a7, a8⟩ := (((pa.below k1).below k2).below k3).below k4
  obtain ⟨b1, b2, b3, b4, b5, b6, b7, b8⟩ := ((pb.below k2).below k3).below k4
  obtain ⟨c1, c2, c3, c4, c5, c6, c7, c8, c9⟩ := (pc.below k3).below k4
  obtain ⟨d1, d2, d3, d4, d5, d6, d7, d8, d9⟩ := pd.below k4
  obtain ⟨e1, e2, e3, e4, e5, e6, e7, e8, e9⟩ := pe
  have ya : ∀ j, j ∈ Ba → w0.heap.size ≤ j ∧ j < x1.heap.size := fun j hj => pa.r hj
  have yb : ∀ j, j ∈ Bb → x1.heap.size ≤ j ∧ j < x2.heap.size := fun j hj => pb.r hj
  have yc : ∀ j, j ∈ Bc → x2.heap.size ≤ j ∧ j < x3.heap.size := fun j hj => pc.r hj
  have yd : ∀ j, j ∈ Bd → x3.heap.size ≤ j ∧ j < x4.heap.size := fun j hj => pd.r hj
  have ye : ∀ j, j ∈ Be → x4.heap.size ≤ j ∧ j < x5.heap.size := fun j hj => e9 j hj
  obtain ⟨_, _, _, _, _, _, _, oa1, oa2⟩ := h.a
  obtain ⟨_, _, _, _, _, _, _, ob1, ob2⟩ := h.b
  obtain ⟨_, _, _, _, _, _, _, _, oc1, oc2⟩ := h.c
  obtain ⟨_, _, _, _, _, _, _, _, od1, od2⟩ := h.d
  obtain ⟨_, _, _, _, _, _, _, _, oe1, oe2⟩ := h.e
  have z1 : ∀ j, j ∈ Ba → ¬ j = q := fun j hj => by have := ya j hj; omega
  have z2 : ∀ j, j ∈ Bb → ¬ j = q := fun j hj => by have := yb j hj; omega
  have z3 : ∀ j, j ∈ Bc → ¬ j = q := fun j hj => by have := yc j hj; omega
  have z4 : ∀ j, j ∈ Bd → ¬ j = q := fun j hj => by have := yd j hj; omega
  have z5 : ∀ j, j ∈ Be → ¬ j = q := fun j hj => by have := ye j hj; omega
  refine ⟨fun i => if i = 0 then Ba else if i = 1 then Bb else if i = 2 then Bc else if i = 3 then Bd else Be, ⟨⟨a1, a2, a3, a4, a5, a6.keep ex (by rw [← a7]; exact z1), a7, oa1, oa2⟩, ⟨b1, b2, b3, b4, b5, b6.keep ex (by rw [← b7]; exact z2), b7, ob1, ob2⟩, ⟨c1, c2, c3, c4, c5, c6, c7.keep ex (by rw [← c8]; exact z3), c8, oc1, oc2⟩, ⟨d1, d2, d3, d4, d5, d6, d7.keep ex (by rw [← d8]; exact z4), d8, od1, od2⟩, ⟨e1, e2, e3, e4, e5, e6, e7.keep ex (by rw [← e8]; exact z5), e8, oe1, oe2⟩, ?_⟩, ?_⟩
  · intro i j hi hj hne k hk hk2
    have lo : ∀ i, i < 5 → ∀ k, k ∈ (if i = 0 then Ba else if i = 1 then Bb else if i = 2 then Bc else if i = 3 then Bd else Be) → (i = 0 ∧ k < x1.heap.size) ∨ (i = 1 ∧ x1.heap.size ≤ k ∧ k < x2.heap.size) ∨ (i = 2 ∧ x2.heap.size ≤ k ∧ k < x3.heap.size) ∨ (i = 3 ∧ x3.heap.size ≤ k ∧ k < x4.heap.size) ∨ (i = 4 ∧ x4.heap.size ≤ k) := fun i hi k hk => by
      rcases (by omega : i = 0 ∨ i = 1 ∨ i = 2 ∨ i = 3 ∨ i = 4) with rfl | rfl | rfl | rfl | rfl
      · exact .inl ⟨rfl, (ya k hk).2⟩
      · exact .inr (.inl ⟨rfl, yb k hk⟩)
      · exact .inr (.inr (.inl ⟨rfl, yc k hk⟩))
      · exact .inr (.inr (.inr (.inl ⟨rfl, yd k hk⟩)))
      · exact .inr (.inr (.inr (.inr ⟨rfl, (ye k hk).1⟩)))
    have h1 := lo i hi k hk
    have h2 := lo j hj k hk2
    omega
  · intro i hi k hk
    rcases (by omega : i = 0 ∨ i = 1 ∨ i = 2 ∨ i = 3 ∨ i = 4) with rfl | rfl | rfl | rfl | rfl
    · have := (ya k hk).1; omega
    · have := (yb k hk).1; omega
    · have := (yc k hk).1; omega
    · have := (yd k hk).1; omega
    · have := (ye k hk).1; omega
theorem Try.sz56 : (Try.prog.info? 56).map (·.size) = some 667 := by kernel_rfl
theorem Try.zs56 : Try.zeroCells56.size = 667 := by kernel_rfl
end Go.Proofs.Qxb6500784a
