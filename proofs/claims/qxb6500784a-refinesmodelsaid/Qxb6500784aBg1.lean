import Derived.Test.Qxb6500784aSi4
import Derived.Test.Qxb6500784aLh
import Derived.Test.Qxb6500784aBg0
import Derived.Test.Qxb6500784aSro
namespace Go.Proofs.Qxb6500784a
open Go.RowKit

/-! ### A world's cells as one list -/
def WF (w : World) (P : Pr) (F : List Value) (S : List Nat) : Prop := ∃ Va Vb Vc Vd Ve f, F = Va ++ (Vb ++ (Vc ++ (Vd ++ Ve))) ∧ WV w P Va Vb Vc Vd Ve f ∧ S = f 0 ++ (f 1 ++ (f 2 ++ (f 3 ++ f 4)))
theorem WF.len {w : World} {P : Pr} {F : List Value} {S : List Nat} (h : WF w P F S) : F.length = 667 := by
  obtain ⟨_, _, _, _, _, _, rfl, h, _⟩ := h
  exact h.len
theorem WF.one {w : World} {P : Pr} {F : List Value} {S : List Nat} (h : WF w P F S) : ∀ u ∈ F, u.oneCell' = true := by
  obtain ⟨_, _, _, _, _, _, rfl, h, _⟩ := h
  exact h.one
theorem WF.lt {w : World} {P : Pr} {F : List Value} {S : List Nat} (h : WF w P F S) {k : Nat} (hk : k ∈ S) : k < w.heap.size := by
  obtain ⟨_, _, _, _, _, f, rfl, h, rfl⟩ := h
  obtain ⟨i, hi, hk⟩ := mem5.1 hk
  exact h.lt hi hk
theorem WF.ex {w w' : World} {P : Pr} {F : List Value} {S : List Nat} {Z : Nat → Prop} (h : WF w P F S) (k : Ex Z w w') (hz : ∀ j, j ∈ S → ¬ Z j) : WF w' P F S := by
  obtain ⟨_, _, _, _, _, f, rfl, h, rfl⟩ := h
  exact ⟨_, _, _, _, _, f, rfl, h.ex k (fun i hi j hj => hz j (mem5.2 ⟨i, hi, hj⟩)), rfl⟩
theorem WF.below {w w' : World} {P : Pr} {F : List Value} {S : List Nat} (h : WF w P F S) (k : Below w.heap.size w w') : WF w' P F S := h.ex (Z := fun _ => False) (Ex.of k) (fun _ _ e => e)
theorem WF.pp {w : World} {b : Nat} {P : Pr} {F : List Value} {S : List Nat} (h : WF w P F S) (hr : w.rangeAt b 0 F) (ht : w.there b 0 667) (hb : b < w.heap.size) (hn : b ∉ S) : PP w b P S := by
  obtain ⟨Va, Vb, Vc, Vd, Ve, f, rfl, h, rfl⟩ := h
  obtain ⟨l1, l2, l3, l4, l5⟩ := h.lens
  obtain ⟨r1, r2⟩ := range_app hr
  obtain ⟨r3, r4⟩ := range_app r2
  obtain ⟨r5, r6⟩ := range_app r4
  obtain ⟨r7, r8⟩ := range_app r6
  rw [l1] at r3 r5 r7 r8
  rw [l2] at r5 r7 r8
  rw [l3] at r7 r8
  rw [l4] at r8
  exact ⟨f, h.pa (b := b) r1 r3 r5 r7 r8 ht hb (fun i hi z => hn (mem5.2 ⟨i, hi, z⟩)), rfl⟩
theorem range_cat {w : World} {b o n : Nat} {A B : List Value} (h1 : w.rangeAt b o A) (hn : A.length = n) (h2 : w.rangeAt b (o + n) B) : w.rangeAt b o (A ++ B) := fun j v hv => by
  subst hn
  by_cases hj : j < A.length
  · rw [List.getElem?_append_left hj] at hv
    exact h1 j v hv
  · rw [List.getElem?_append_right (by omega)] at hv
    have := h2 (j - A.length) v hv
    rwa [show o + A.length + (j - A.length) = o + j by omega] at this
theorem PP.wf {w : World} {b : Nat} {P : Pr} {S : List Nat} (h : PP w b P S) : ∃ F, WF w P F S ∧ w.rangeAt b 0 F := by
  obtain ⟨f, h, rfl⟩ := h
  obtain ⟨Va, Vb, Vc, Vd, Ve, hw, r1, r2, r3, r4, r5⟩ := h.wv
  obtain ⟨l1, l2, l3, l4, l5⟩ := hw.lens
  exact ⟨_, ⟨Va, Vb, Vc, Vd, Ve, f, rfl, hw, rfl⟩, range_cat r1 l1 (range_cat r2 l2 (range_cat r3 l3 (range_cat r4 l4 r5)))⟩
theorem copyF (w : World) (P : Pr) (F : List Value) (S : List Nat) (h : WF w P F S) (hsm : PSm P) :
    Calls Try.prog 49 #[.agg F.toArray] w fun e w' => ∃ U S', e = .returned (.agg U.toArray) ∧ WF w' P U S' ∧ Below w.heap.size w w' ∧ ∀ k, k ∈ S' → w.heap.size ≤ k := by
  obtain ⟨Va, Vb, Vc, Vd, Ve, f, rfl, h, rfl⟩ := h
  refine (copyW_any w P Va Vb Vc Vd Ve f h hsm).mono ?_
  rintro e y ⟨Ua, Ub, Uc, Ud, Ue, f', rfl, hw, hb, hf⟩
  exact ⟨_, _, rfl, ⟨Ua, Ub, Uc, Ud, Ue, f', rfl, hw, rfl⟩, hb, fun k hk => by obtain ⟨i, hi, hk⟩ := mem5.1 hk; exact hf i hi k hk⟩
/-! ### Loads and stores of many cells, in order -/
theorem wpL_load {P : Program} {ops : Array Oper} {rest : List Oper} {op : Oper} {a : Act} {w : World} {Q : Exit → Act → World → Prop} (hg : op.guard = none) (ty : TypeId) (x : Operand) (ho : op.op = .load ty x)
    (b o : Nat) (hx : a.eval x = .pointer (some ⟨b, o, none⟩)) (cs : List Value) (d : TypeDesc) (hr : w.rangeAt b o cs) (hu : P.underlying ty = some d) (hd : d.isRow = true) (hi : (P.info? ty).map (·.size) = some cs.length)
    (h : wpList P ops Q rest (a.put op.dst (.agg cs.toArray)) w) : wpList P ops Q (op :: rest) a w := by
  refine wpL_run hg (.agg cs.toArray) w ?_ h
  unfold execOp
  simp only [ho, hx, Instr.loadAt, Instr.sureAddr, Sem.run_bind, Sem.run_pure, Result.andThen_ok, run_loadVar_mid w b o ty cs d hr hu hd hi]
theorem wpL_store {P : Program} {ops : Array Oper} {rest : List Oper} {op : Oper} {a : Act} {w : World} {Q : Exit → Act → World → Prop} (hg : op.guard = none) (ty : TypeId) (x y : Operand) (ho : op.op = .store ty x y)
    (b o : Nat) (cs : List Value) (hx : a.eval x = .pointer (some ⟨b, o, none⟩)) (hy : a.eval y = .agg cs.toArray) (ht : w.there b o cs.length) (hi : (P.info? ty).map (·.size) = some cs.length) (h1 : ∀ u ∈ cs, u.oneCell' = true)
    (h : wpList P ops Q rest (a.put op.dst undef) (w.setCells b o cs)) : wpList P ops Q (op :: rest) a w :=
  wpList_plain hg fun _ hK => wp_store_mid ty x y ho b o cs.toArray hx hy (by simpa using ht) (by simpa using hi) (all_oneCell_toArray h1) (by simpa using hK _ _ h)
/-! ### BigStep, plain -/
noncomputable def bigK (P : Pr) (n : Nat) (L : Nat → Leg) (T : Nat → List Int) (v : Value) : Pr × Rs × Int × Int := runK L T (ordP n L) P (res0 (ordI (ordP n L)) v)
theorem big_sim (P : Pr) (n : Nat) (L : Nat → Leg) (T : Nat → List Int) (v : Value) : SameP (bigK P n L T v).1 (simK P n L T v).1 ∧ (simK P n L T v).2 = (bigK P n L T v).2 := runK_same _ _ _ _ (open_same P)
theorem big_fail {P : Pr} {n : Nat} {L : Nat → Leg} {T : Nat → List Int} {v : Value} {Q : Pr} {r : Rs} {c f : Int} (hc : ordCode n L = 0) (hs : shallow P) (hK : bigK P n L T v = (Q, r, c, f)) (hn : c ≠ 0) : simR P n L T v = refR c f ∧ simS true P n L T = P := by
  have h := (big_sim P n L T v).2
  rw [hK] at h
  exact sim_fail (Q := (simK P n L T v).1) (r := r) (c := c) (f := f) hc hs (Prod.ext rfl h) hn true
theorem big_ok {P : Pr} {n : Nat} {L : Nat → Leg} {T : Nat → List Int} {v : Value} {Q : Pr} {r : Rs} (hc : ordCode n L = 0) (hs : shallow P) (hK : bigK P n L T v = (Q, r, 0, -1)) : simR P n L T v = { r with ra := rootP Q.la, rb := rootP Q.lb } ∧ simS true P n L T = Q := by
  obtain ⟨h1, h2⟩ := big_sim P n L T v
  obtain ⟨_, _, _, _, hom, hoc⟩ := ord_facts hc
  have k1 : Same6 (bigK P n L T v).1 P := runK_keep _ (fun i hi => (hoc i (hom i hi)).1) _ _
  have k2 : Same6 (simK P n L T v).1 (opened P) := runK_keep _ (fun i hi => (hoc i (hom i hi)).1) _ _
  rw [hK] at h1 h2 k1
  obtain ⟨e1, e2⟩ := sim_ok (Q := (simK P n L T v).1) (r := r) hc hs (Prod.ext rfl h2) true
  rw [e1, e2, if_pos rfl]
  generalize (simK P n L T v).1 = Q' at *
  obtain ⟨s1, s2, s3, s4, s5, s6⟩ := k1
  obtain ⟨_, _, _, _, _, t6⟩ := k2
  obtain ⟨a1, a2, a3, a4, a5⟩ := h1
  simp only at s1 s2 s3 s4 s5 s6 a1 a2 a3 a4 a5
  refine ⟨by rw [a1, a2], ?_⟩
  unfold kept
  rw [a1, a2, a3, a4, a5, t6, ← s1, ← s2, ← s3, ← s4]
  show Pr.mk _ _ _ _ _ _ _ _ _ P.t1 = Q
  rw [← s6]
theorem ord_least {n : Nat} {L : Nat → Leg} (h : ordCode n L = 0) : bCode n L = 0 ∧ srch n L n [] = some (ordP n L) := by
  have hb : bCode n L = 0 := by
    apply Classical.byContradiction
    intro e
    rw [ordCode_bad e] at h
    exact e h
  have hs : stuckP n (needM n L) = 0 := by
    apply Classical.byContradiction
    intro e
    rw [ordCode_cyc hb e] at h
    cases h
  exact ⟨hb, (least_ok hb hs).1⟩
/-! ### BigStep's memory -/
/-- What BigStep answers. -/
def BgPost (w : World) (P : Pr) (n : Nat) (L : Nat → Leg) (T : Nat → List Int) (F : List Value) (S : List Nat) (e : Ending) (y : World) : Prop :=
  ∃ v U S' vo vr vs C, e = .returned (.tuple #[.agg U.toArray, .agg ((simR P n L T v).vals vo vr vs).toArray]) ∧ WF y (simS true P n L T) U S' ∧ RL y (simR P n L T v) vo vr vs C ∧ (simR P n L T v).Ok ∧ Below w.heap.size w y ∧ (∀ k, k ∈ C → w.heap.size ≤ k ∧ k ∉ S') ∧ ((U = F ∧ S' = S) ∨ ∀ k, k ∈ S' → w.heap.size ≤ k)
/-- The beginning of the run. -/
theorem lw_big {w1 w3 w4 : World} {D : Nat} {P : Pr} {o : List Nat} {va : Option Addr} {vc : Nat} {U : List Value} {S : List Nat} {X : List (Nat × List Value)} (hs1 : w1.heap.size = D + 4)
    (hX : ∀ p, p ∈ X → D ≤ p.1 ∧ p.1 < D + 4 ∧ w1.rangeAt p.1 0 p.2 ∧ w1.there p.1 0 p.2.length) (hXn : (X.map (·.1)).Nodup) (b13 : Below w1.heap.size w1 w3) (hv : w3.ownsRow w1.heap.size 3 1 (.slice va o.length vc) o.length (vals o)) (b34 : Below w3.heap.size w3 w4)
    (hU : WF w4 P U S) (hS : ∀ k, k ∈ S → w3.heap.size ≤ k) (F0 : List Value) (hF : (res0 (ordI o) (.slice va o.length vc)).vals (.slice va o.length vc) nilS nilS = F0) {w5 w6 : World} (h5 : w4.alloc (.cells U.toArray 56) = w5) (rF : w6.rangeAt w5.heap.size 0 F0) (tF : w6.there w5.heap.size 0 70) (b56 : Below w5.heap.size w5 w6) (z6 : w6.heap.size = w5.heap.size + 1) :
    ∃ C, LW w6 w4.heap.size (w4.heap.size + 1) S C w6 P S (res0 (ordI o) (.slice va o.length vc)) C X ∧ ∀ k, k ∈ C → D + 4 ≤ k := by
  have b1 := b13.size
  have b3 := b34.size
  have hvl : ∀ k, (Value.slice va o.length vc).ownBlock = some k → D + 4 ≤ k ∧ k < w3.heap.size := fun k e => by have := hv.lt k e; omega
  have hC : ∀ k, k ∈ blks [Value.slice va o.length vc, nilS, nilS] → (Value.slice va o.length vc).ownBlock = some k := fun k hk => by
    obtain ⟨v, hv, e⟩ := mem_blks.1 hk
    simp only [List.mem_cons, List.not_mem_nil, or_false] at hv
    rcases hv with rfl | rfl | rfl
    · exact e
    · cases e
    · cases e
  have b45 : Below w4.heap.size w4 w5 := by rw [← h5]; exact be1 _ _
  have z5 : w5.heap.size = w4.heap.size + 1 := by rw [← h5]; simp
  rw [z5] at rF tF z6
  have b46 : Below w4.heap.size w4 w6 := b45.trans (b56.mono (by omega))
  have b36 : Below w3.heap.size w3 w6 := b34.trans (b46.mono (by omega))
  have b16 : Below w1.heap.size w1 w6 := b13.trans (b36.mono (by omega))
  have hv6 : w6.ownsRow w1.heap.size 3 1 (.slice va o.length vc) o.length (vals o) := own_kept hv (Ex.of (S := fun _ => False) b36) (fun _ _ e => e)
  have rU : w6.rangeAt w4.heap.size 0 U := range_below (by rw [← h5]; exact newR w4 U 56) (by omega) b56
  have tU : w6.there w4.heap.size 0 667 := there_below (by rw [← h5, ← hU.len]; exact newT w4 U 56) (by omega) b56
  have hpp : PP w6 w4.heap.size P S := (hU.below b46).pp rU tU (by omega) (fun e => by have := hU.lt e; omega)
  have hrw : RW w6 w4.heap.size P S (w4.heap.size + 1) (res0 (ordI o) (.slice va o.length vc)) (blks [Value.slice va o.length vc, nilS, nilS]) := by
    refine ⟨hpp, ⟨.slice va o.length vc, nilS, nilS, by rw [hF]; exact rF, ⟨?_, World.ownsRow_nil _ _ _ _, World.ownsRow_nil _ _ _ _, rfl, ?_, rfl⟩⟩, tF, res0_ok _ _, by omega, by omega, fun e => by have := hU.lt e; omega, fun e => ?_, fun e => ?_, fun k hk hc => ?_⟩
    · show w6.ownsRow 0 3 1 _ (ordI o).length (i64s (ordI o))
      rw [ordI_vals, show (ordI o).length = o.length by simp [ordI]]
      exact ownsRow_base hv6 (Nat.zero_le _)
    · show (List.filterMap Value.ownBlock [Value.slice va o.length vc, nilS, nilS]).Nodup
      exact blk1 _
    · have := hvl _ (hC _ e); omega
    · have := hvl _ (hC _ e); omega
    · have h1 := hvl _ (hC _ hc)
      have := hS k hk
      omega
  refine ⟨_, ⟨hrw, fun p hp => ?_, Ex.refl _ _, fun _ h => .inl h, fun _ h => .inl h, hXn⟩, fun k hk => (hvl k (hC k hk)).1⟩
  obtain ⟨x1, x2, x3, x4⟩ := hX p hp
  exact ⟨range_below x3 (by omega) b16, there_below x4 (by omega) b16, by omega, by omega, fun e => by have := hS _ e; omega, by omega, fun e => by have := hvl _ (hC _ e); omega⟩
/-- The first variable is set. -/
theorem LW.setH {w0 : World} {b d : Nat} {S0 C0 : List Nat} {w : World} {P : Pr} {S : List Nat} {r : Rs} {C : List Nat} {X : List (Nat × List Value)} {q : Nat} {cs : List Value} (h : LW w0 b d S0 C0 w P S r C ((q, cs) :: X)) (hn : w0.heap.size ≤ q) (cs' : List Value) (hl : cs'.length = cs.length) : LW w0 b d S0 C0 (w.setCells q 0 cs') P S r C ((q, cs') :: X) := by
  have th := (h.lo (q, cs) (by simp)).th
  rw [← hl] at th
  refine (h.setC (q := q) (cs := cs) (by simp) hn (Ex.sets (S := fun k => k = q) rfl _ _ _ (Ex.refl _ _)) (cs' := cs') (World.rangeAt_setCells_same w q 0 cs' th) (World.there_setCells th _ _ _)).pick (Y := (q, cs') :: X) (fun p hp => ?_) h.ap
  rcases List.mem_cons.1 hp with rfl | hp
  · simp
  · have hne : p.1 ≠ q := fun e => by
      have := h.ap
      rw [List.map_cons, List.nodup_cons] at this
      exact this.1 (List.mem_map.2 ⟨p, hp, e⟩)
    simp [hp, hne]
/-- Four new variables. -/
theorem new4 (w : World) (G : List Value) (u : Value) (Z6 Z5 : List Value) {w1 : World} (e : (((w.alloc (.cells G.toArray 56)).alloc (.cells #[u] 27)).alloc (.cells Z6.toArray 56)).alloc (.cells Z5.toArray 65) = w1) :
    Below w.heap.size w w1 ∧ w1.heap.size = w.heap.size + 4 ∧ (∀ p, p ∈ [(w.heap.size, G), (w.heap.size + 1, [u]), (w.heap.size + 2, Z6), (w.heap.size + 3, Z5)] → w.heap.size ≤ p.1 ∧ p.1 < w.heap.size + 4 ∧ w1.rangeAt p.1 0 p.2 ∧ w1.there p.1 0 p.2.length) := by
  subst e
  have b1 := be1 w (.cells G.toArray 56)
  obtain ⟨x1, h1⟩ : ∃ x, w.alloc (.cells G.toArray 56) = x := ⟨_, rfl⟩
  have r1 := newR w G 56
  have t1 := newT w G 56
  have z1 : x1.heap.size = w.heap.size + 1 := by rw [← h1]; simp
  rw [h1] at b1 r1 t1 ⊢
  have b2 := be1 x1 (.cells #[u] 27)
  have r2 := newR x1 [u] 27
  have t2 := newT x1 [u] 27
  obtain ⟨x2, h2⟩ : ∃ x, x1.alloc (.cells #[u] 27) = x := ⟨_, rfl⟩
  have z2 : x2.heap.size = w.heap.size + 2 := by rw [← h2]; simp [z1]
  rw [h2] at b2 r2 t2 ⊢
  have b3 := be1 x2 (.cells Z6.toArray 56)
  have r3 := newR x2 Z6 56
  have t3 := newT x2 Z6 56
  obtain ⟨x3, h3⟩ : ∃ x, x2.alloc (.cells Z6.toArray 56) = x := ⟨_, rfl⟩
  have z3 : x3.heap.size = w.heap.size + 3 := by rw [← h3]; simp [z2]
  rw [h3] at b3 r3 t3 ⊢
  have b4 := be1 x3 (.cells Z5.toArray 65)
  have r4 := newR x3 Z5 65
  have t4 := newT x3 Z5 65
  obtain ⟨x4, h4⟩ : ∃ x, x3.alloc (.cells Z5.toArray 65) = x := ⟨_, rfl⟩
  have z4 : x4.heap.size = w.heap.size + 4 := by rw [← h4]; simp [z3]
  rw [h4] at b4 r4 t4 ⊢
  rw [z1] at r2 t2
  rw [z2] at r3 t3
  rw [z3] at r4 t4
  refine ⟨lec (lec (lec b1 b2) b3) b4, z4, fun p hp => ?_⟩
  simp only [List.mem_cons, List.not_mem_nil, or_false] at hp
  rcases hp with rfl | rfl | rfl | rfl
  · exact ⟨by simp, by simp, range_below r1 (by omega) (lec (lec b2 b3) b4), there_below t1 (by omega) (lec (lec b2 b3) b4)⟩
  · exact ⟨by simp, by simp, range_below r2 (by omega) (lec b3 b4), there_below t2 (by simp; omega) (lec b3 b4)⟩
  · exact ⟨by simp, by simp, range_below r3 (by omega) b4, there_below t3 (by omega) b4⟩
  · exact ⟨by simp, by simp, r4, t4⟩
theorem least_run (w : World) (a : Option Addr) (n cap : Nat) (L : Nat → Leg) (hL : LegsAt w a n L) (hc : ordCode n L = 0) :
    Calls Try.prog 16 #[.agg #[.slice a n cap]] w fun e w' => ∃ g vc, e = .returned (.tuple #[.slice (some ⟨g, 0, none⟩) (ordP n L).length vc, .bool true]) ∧ Below w.heap.size w w' ∧ w'.ownsRow w.heap.size 3 1 (.slice (some ⟨g, 0, none⟩) (ordP n L).length vc) (ordP n L).length (vals (ordP n L)) := by
  obtain ⟨h0, h8, hl, _⟩ := ord_facts hc
  have hs := (ord_least hc).2
  refine (least_own w a n cap L h8 hL).mono ?_
  rintro e y ⟨hb, ⟨r, ao, cp, hr, rfl, _, ho⟩ | ⟨hr, _⟩⟩
  · rw [hs] at hr
    injection hr with hr
    subst hr
    obtain ⟨g, c, e⟩ := own_some ho (by omega)
    injection e with e1 _ e3
    subst e1 e3
    exact ⟨g, cp, rfl, hb, ho⟩
  · rw [hs] at hr
    cases hr
/-- A leg, part by part. -/
structure LegParts (P : Pr) (c : Int) (t : List Int) (r : Rs) (tk sn : Bool) (k1 : Int) (P1 : Pr) (r1 : Rs) : Prop where
  code : (appR (P.led c) t).code = refP (P.led c) t
  ht : (appR (P.led c) t).ht = tk
  hs : (appR (P.led c) t).hs = sn
  t0 : tk = true → refP (P.led c) t = 0
  s0 : sn = true → k1 = 0 ∧ refP (P.led c) t = 0 ∧ tk = false
  t1 : tk = true → (appR (P.led c) t).took = txMsg t ∧ k1 = conP (P.box c) (P.box (fld t 43)) (txMsg t) ∧ P1 = (P.setL c (appL (P.led c) t) (P.sled c)).setB c (conB (P.box c) (P.box (fld t 43)) (txMsg t)) (P.sbox c)
  t2 : tk = false → k1 = refP (P.led c) t ∧ P1 = P.setL c (appL (P.led c) t) (P.sled c)
  s1 : sn = true → (appR (P.led c) t).sent = sntM (P.led c) t ∧ legC P c t = sndP (P.box c) ∧ legS P c t = P1.setB c (sndB (P.box c) (sntM (P.led c) t)) (P.sbox c) ∧ r1 = { r with stm := r.stm ++ [stamp (P.box c) (sntM (P.led c) t)] }
  s2 : sn = false → legC P c t = k1 ∧ legS P c t = P1 ∧ r1 = r
  g : legC P c t = 0 → (appR (P.led c) t).gas = gasP t
  r : legC P c t = 0 → legR P c t r = { r1 with rcs := r1.rcs ++ [appR (P.led c) t], gas := w64 (r1.gas + gasP t) }
theorem leg_parts (P : Pr) (c : Int) (t : List Int) (r : Rs) : ∃ tk sn k1 P1 r1, LegParts P c t r tk sn k1 P1 r1 := by
  by_cases hc : refP (P.led c) t = 0
  · have hk := (refA0 (ref0 hc).1).1
    by_cases h1 : fld t 0 = 1
    · have ea : appR (P.led c) t = { rcp0 with gas := gasP t, fee := fld t 4 } := by rw [appR, if_neg (by simp [hc]), if_pos h1]
      have ec : legC P c t = 0 := by rw [legC, if_neg (by simp [hc]), if_neg (by omega), if_neg (by omega)]
      have es : legS P c t = P.setL c (appL (P.led c) t) (P.sled c) := by rw [legS, if_neg (by simp [hc]), if_neg (by omega), if_neg (by omega)]
      have er : legR P c t r = { r with rcs := r.rcs ++ [appR (P.led c) t], gas := w64 (r.gas + gasP t) } := by rw [legR, if_neg (by omega)]
      exact ⟨false, false, 0, _, r, by rw [ea, hc]; rfl, by rw [ea]; rfl, by rw [ea]; rfl, nofun, nofun, nofun, fun _ => ⟨hc.symm, rfl⟩, nofun, fun _ => ⟨ec, es, rfl⟩, fun _ => by rw [ea], fun _ => er⟩
    · by_cases h2 : fld t 0 = 2 ∨ fld t 0 = 4
      · have ea : appR (P.led c) t = { rcp0 with gas := gasP t, fee := fld t 4, hs := true, sent := sntM (P.led c) t } := by
          rw [appR, if_neg (by simp [hc]), if_neg (by omega), sntM]
          rcases h2 with hk | hk
          · rw [if_pos hk, if_pos hk]
          · rw [if_neg (by omega), if_pos hk, if_neg (by omega)]
        have ec : legC P c t = sndP (P.box c) := by rw [legC, if_neg (by simp [hc]), if_neg (by omega), if_pos h2]
        have es : legS P c t = (P.setL c (appL (P.led c) t) (P.sled c)).setB c (sndB (P.box c) (sntM (P.led c) t)) (P.sbox c) := by rw [legS, if_neg (by simp [hc]), if_neg (by omega), if_pos h2]
        have er : legR P c t r = { r with rcs := r.rcs ++ [appR (P.led c) t], stm := r.stm ++ [stamp (P.box c) (sntM (P.led c) t)], gas := w64 (r.gas + gasP t) } := by rw [legR, if_pos h2]
        exact ⟨false, true, 0, _, _, by rw [ea, hc]; rfl, by rw [ea]; rfl, by rw [ea], nofun, fun _ => ⟨rfl, hc, rfl⟩, nofun, fun _ => ⟨hc.symm, rfl⟩, fun _ => ⟨by rw [ea], ec, es, rfl⟩, nofun, fun _ => by rw [ea], fun _ => er⟩
      · have h3 : fld t 0 = 3 ∨ fld t 0 = 5 := by omega
        have ea : appR (P.led c) t = { rcp0 with gas := gasP t, fee := fld t 4, ht := true, took := txMsg t } := by rw [appR, if_neg (by simp [hc]), if_neg (by omega), if_neg (by omega), if_neg (by omega)]
        have ec : legC P c t = conP (P.box c) (P.box (fld t 43)) (txMsg t) := by rw [legC, if_neg (by simp [hc]), if_pos h3]
        have es : legS P c t = (P.setL c (appL (P.led c) t) (P.sled c)).setB c (conB (P.box c) (P.box (fld t 43)) (txMsg t)) (P.sbox c) := by rw [legS, if_neg (by simp [hc]), if_pos h3]
        have er : legR P c t r = { r with rcs := r.rcs ++ [appR (P.led c) t], gas := w64 (r.gas + gasP t) } := by rw [legR, if_neg (by omega)]
        exact ⟨true, false, _, _, r, by rw [ea, hc]; rfl, by rw [ea], by rw [ea]; rfl, fun _ => hc, nofun, fun _ => ⟨by rw [ea], rfl, rfl⟩, nofun, nofun, fun _ => ⟨ec, es, rfl⟩, fun _ => by rw [ea], fun _ => er⟩
  · have ea : appR (P.led c) t = { rcp0 with code := refP (P.led c) t } := by rw [appR, if_pos hc]
    have ec : legC P c t = refP (P.led c) t := by rw [legC, if_pos hc]
    have es : legS P c t = P.setL c (appL (P.led c) t) (P.sled c) := by rw [legS, if_pos hc, appL, if_pos hc, Pr.setL_self]
    exact ⟨false, false, _, _, r, by rw [ea], by rw [ea]; rfl, by rw [ea]; rfl, nofun, nofun, nofun, fun _ => ⟨rfl, rfl⟩, nofun, fun _ => ⟨ec, es, rfl⟩, fun h => absurd (ec.symm.trans h) hc, fun h => absurd (ec.symm.trans h) hc⟩
/-- The run is kept. -/
theorem big_done {w w6 wz wy : World} {b d : Nat} {P Q : Pr} {S6 Sz C6 C : List Nat} {r : Rs} {X : List (Nat × List Value)} {n : Nat} {L : Nat → Leg} {T : Nat → List Int} {F : List Value} {S : List Nat} {v vo vr vs : Value} {U R : List Value} {A B : Nat} (hw : Below w.heap.size w w6) (h : LW w6 b d S6 C6 wz Q Sz r C X)
    (hb : w.heap.size ≤ b) (hd : w.heap.size ≤ d) (hS : ∀ k, k ∈ S6 → w.heap.size ≤ k) (hC : ∀ k, k ∈ C6 → w.heap.size ≤ k) (hU : WF wz Q U Sz) (hR : RL wz r vo vr vs C) (hRv : r.vals vo vr vs = R)
    (ex : Ex (fun j => j = A ∨ j = B) wz wy) (hA : w.heap.size ≤ A ∧ A ∉ Sz ∧ A ∉ C) (hB : w.heap.size ≤ B ∧ B ∉ Sz ∧ B ∉ C) (e1 : simR P n L T v = r) (e2 : simS true P n L T = Q) :
    BgPost w P n L T F S (.returned (.tuple #[.agg U.toArray, .agg R.toArray])) wy := by
  have hex : Below w.heap.size w wz := hw.trans (h.ex.below hw.size (fun k hk e => by
    rcases e with e | e | e | e
    · omega
    · have := hS k e; omega
    · omega
    · have := hC k e; omega))
  refine ⟨v, U, Sz, vo, vr, vs, C, by rw [e1, hRv], ?_, ?_, by rw [e1]; exact h.rw.ok, ?_, fun k hk => ⟨?_, fun e => h.rw.SC k e hk⟩, .inr fun k hk => ?_⟩
  · rw [e2]; exact hU.ex ex (fun j hj e => by rcases e with rfl | rfl; exact hA.2.1 hj; exact hB.2.1 hj)
  · rw [e1]; exact hR.keep ex (fun j hj e => by rcases e with rfl | rfl; exact hA.2.2 hj; exact hB.2.2 hj)
  · exact hex.trans (ex.below hex.size (fun k hk e => by rcases e with e | e <;> omega))
  · rcases h.fc k hk with z | z
    · exact hC k z
    · have := hw.size; omega
  · rcases h.fs k hk with z | z
    · exact hS k z
    · have := hw.size; omega
/-- A refusal. -/
theorem big_refused {w wz wy : World} {P : Pr} {n : Nat} {L : Nat → Leg} {T : Nat → List Int} {F : List Value} {S : List Nat} {v : Value} {R : List Value} {c i : Int} {A B : Nat} (hF : WF w P F S) (hw : Below w.heap.size w wz) (hRv : (refR c i).vals nilS nilS nilS = R)
    (ex : Ex (fun j => j = A ∨ j = B) wz wy) (hA : w.heap.size ≤ A) (hB : w.heap.size ≤ B) (e1 : simR P n L T v = refR c i) (e2 : simS true P n L T = P) :
    BgPost w P n L T F S (.returned (.tuple #[.agg F.toArray, .agg R.toArray])) wy := by
  have hy : Below w.heap.size w wy := hw.trans (ex.below hw.size (fun k hk e => by rcases e with e | e <;> omega))
  refine ⟨v, F, S, nilS, nilS, nilS, [], by rw [e1, hRv], ?_, ?_, by rw [e1]; exact refR_ok _ _, hy, fun k hk => absurd hk (by simp), .inl ⟨rfl, rfl⟩⟩
  · rw [e2]; exact hF.below hy
  · rw [e1]; exact ⟨World.ownsRow_nil _ _ _ _, World.ownsRow_nil _ _ _ _, World.ownsRow_nil _ _ _ _, rfl, List.nodup_nil, rfl⟩
end Go.Proofs.Qxb6500784a
