import Derived.Test.Qxb6500773aGreatPr3
import Derived.Deep.CutBlock
namespace Go.Proofs.Qxb6500773aGreat
set_option maxRecDepth 100000
open Go.RowKit

/-- The bounds of the i-th clause, and the clause. -/
def loP (E : List Int) (i : Nat) : Nat := if i = 0 then 0 else (E.getD (i - 1) 0).toNat
def clP (L E : List Int) (i : Nat) : List Int := (L.take (loP E (i + 1))).drop (loP E i)
structure EOk (L E : List Int) : Prop where
  asc : ∀ (i j : Nat) (x y : Int), i ≤ j → E[i]? = some x → E[j]? = some y → x ≤ y
  rng : ∀ x ∈ E, 0 ≤ x ∧ x ≤ L.length
theorem DOk.eok {n : Nat} {s : DSt} (h : DOk n s) : EOk s.L s.E := ⟨h.asc, h.rng⟩
theorem loP_at {E : List Int} {i : Nat} {x : Int} (h : E[i]? = some x) : loP E (i + 1) = x.toNat := by
  unfold loP
  rw [if_neg (by omega), Nat.add_sub_cancel, List.getD_eq_getElem?_getD, h]
  rfl
theorem EOk.lo {L E : List Int} (h : EOk L E) {i : Nat} (hi : i < E.length) : loP E i ≤ loP E (i + 1) ∧ loP E (i + 1) ≤ L.length ∧ E[i]? = some ((loP E (i + 1) : Nat) : Int) ∧ (if i = 0 then loP E i = 0 else E[i - 1]? = some ((loP E i : Nat) : Int)) := by
  have e1 := List.getElem?_eq_getElem hi
  have r1 := h.rng _ (List.mem_of_getElem? e1)
  have l1 := loP_at e1
  have h1 : E[i]? = some ((loP E (i + 1) : Nat) : Int) := by rw [e1, l1, Int.toNat_of_nonneg r1.1]
  by_cases h0 : i = 0
  · subst h0
    exact ⟨by show 0 ≤ _; omega, by rw [l1]; omega, h1, by rw [if_pos rfl]; rfl⟩
  · have e2 := List.getElem?_eq_getElem (show i - 1 < E.length by omega)
    have r2 := h.rng _ (List.mem_of_getElem? e2)
    have l2 := loP_at e2
    rw [show i - 1 + 1 = i by omega] at l2
    have h2 : E[i - 1]? = some ((loP E i : Nat) : Int) := by rw [e2, l2, Int.toNat_of_nonneg r2.1]
    have := h.asc (i - 1) i _ _ (by omega) h2 h1
    exact ⟨by omega, by rw [l1]; omega, h1, by rw [if_neg h0]; exact h2⟩
theorem clP_len {L E : List Int} (h : EOk L E) {i : Nat} (hi : i < E.length) : (clP L E i).length = loP E (i + 1) - loP E i := by
  unfold clP
  have := h.lo hi
  rw [List.length_drop, List.length_take]
  omega
theorem clP_ok {L E : List Int} (h : ∀ x ∈ L, LitOk x) (i : Nat) : ∀ x ∈ clP L E i, LitOk x := fun x hx => h x (List.mem_of_mem_take (List.mem_of_mem_drop hx))
/-- The text of the first k steps. -/
def drT (L E : List Int) (D : List Bool) (k : Nat) : List Int := (List.range k).flatMap fun i => stT (D.getD i false) (clP L E i)
theorem drT_succ (L E : List Int) (D : List Bool) (k : Nat) : drT L E D (k + 1) = drT L E D k ++ stT (D.getD k false) (clP L E k) := by simp [drT, List.range_succ]
theorem drT_len {L E : List Int} (D : List Bool) (h : EOk L E) (hl : ∀ x ∈ L, LitOk x) : ∀ k, k ≤ E.length → (drT L E D k).length ≤ 10 * loP E k + 4 * k
  | 0, _ => by simp [drT]
  | k + 1, hk => by
    have h1 := drT_len D h hl k (by omega)
    have h2 := stT_len (clP_ok (E := E) hl k) (D.getD k false)
    have h3 := clP_len h (show k < E.length by omega)
    have h4 := h.lo (show k < E.length by omega)
    rw [drT_succ, List.length_append]
    omega
theorem loP_le {L E : List Int} (h : EOk L E) {k : Nat} (hk : k ≤ E.length) : loP E k ≤ L.length := by
  cases k with
  | zero => exact Nat.zero_le _
  | succ k => exact (h.lo (by omega)).2.1
/-- The buffer v lies apart from the proof. -/
def PAp (v : Value) (b : Nat) (va ve vd : Value) : Prop := ∀ j, v.ownBlock = some j → j ≠ b ∧ va.ownBlock ≠ some j ∧ ve.ownBlock ≠ some j ∧ vd.ownBlock ≠ some j
theorem PF.keep2 {w w' : World} {B b : Nat} {v va ve vd : Value} {L E : List Int} {D : List Bool} (h : PF w B b va ve vd L E D) (k : Ex (fun k => v.ownBlock = some k) w w') (hp : PAp v b va ve vd) : PF w' B b va ve vd L E D :=
  have nb : ¬ v.ownBlock = some b := fun e => (hp b e).1 rfl
  ⟨h.ar.keep k nb (fun j z e => (hp j e).2.1 z) (fun j z e => (hp j e).2.2.1 z), k.cell nb h.c2, own_kept h.r2 k (fun j z e => (hp j e).2.2.2 z), h.a3, h.a4, h.a5⟩
theorem PF.far {w : World} {B b : Nat} {va ve vd : Value} {L E : List Int} {D : List Bool} (h : PF w B b va ve vd L E D) {j : Nat} (hj : w.heap.size ≤ j) : j ≠ b ∧ va.ownBlock ≠ some j ∧ ve.ownBlock ≠ some j ∧ vd.ownBlock ≠ some j :=
  ⟨by have := h.ar.lt; omega, own_far h.ar.r0 hj, own_far h.ar.r1 hj, own_far h.r2 hj⟩
theorem PAp.grow {w w' : World} {B b B' : Nat} {v v' va ve vd : Value} {L E Y : List Int} {D : List Bool} (hp : PAp v b va ve vd) (h : PF w B' b va ve vd L E D) (g : BG w B v w' v' Y) : PAp v' b va ve vd := fun j z => by
  rcases g.own j z with e | e
  · exact hp j e
  · exact h.far e
set_option linter.unusedSimpArgs false in
set_option maxHeartbeats 2000000 in
/-- cnf.Proof.NumSteps -/
theorem numSteps_any (w : World) (B b : Nat) (va ve : Value) (L E : List Int) (h : AR w B b 0 va ve L E) :
    Calls Tryz.prog 53 #[.pointer (some ⟨b, 0, none⟩)] w fun e w' => e = .returned (.int .i64 E.length) ∧ w' = w := by
  have hc := count_any w B b 0 va ve L E h
  go_enter Tryz.func53, Tryz.ntmps53
  go_wp2_with fail
  refine hc.mono ?_
  rintro e w' ⟨rfl, rfl⟩
  go_wp2
  go_ret
  exact ⟨rfl, rfl⟩
set_option linter.unusedSimpArgs false in
set_option maxHeartbeats 2000000 in
/-- cnf.Proof.NumLits -/
theorem numLits_any (w : World) (B b : Nat) (va ve : Value) (L E : List Int) (h : AR w B b 0 va ve L E) (hE : E.length ≤ 4611686018427387904) :
    Calls Tryz.prog 128 #[.pointer (some ⟨b, 0, none⟩)] w fun e w' => e = .returned (.int .i64 (clsP E)) ∧ Below w.heap.size w w' := by
  have hc := closed_any w B b 0 va ve L E h hE
  go_enter Tryz.func128, Tryz.ntmps128
  go_wp2_with fail
  refine hc.mono ?_
  rintro e w' ⟨rfl, hb⟩
  go_wp2
  go_ret
  exact ⟨rfl, hb⟩
set_option linter.unusedSimpArgs false in
set_option maxRecDepth 100000 in
set_option maxHeartbeats 4000000 in
/-- cnf.AppendDrat -/
theorem appendDrat_any (w : World) (B : Nat) (v : Value) (X : List Int) (B' b : Nat) (va ve vd : Value) (L E : List Int) (D : List Bool) (h : BB w B v X) (hB : B ≤ w.heap.size) (hp : PF w B' b va ve vd L E D) (hap : PAp v b va ve vd) (hE : EOk L E) (hD : D.length = E.length) (hok : ∀ x ∈ L, LitOk x) (hX : X.length + 10 * L.length + 4 * E.length + 10 ≤ 100000000) :
    Calls Tryz.prog 127 #[v, .pointer (some ⟨b, 0, none⟩)] w (ApPost w B v (X ++ drT L E D E.length)) := by
  suffices H : ∀ v0, v0 = v → Calls Tryz.prog 127 #[v, .pointer (some ⟨b, 0, none⟩)] w (ApPost w B v0 (X ++ drT L E D E.length)) from H v rfl
  intro v0 hv0
  have HBB0 := hide (show BG w B v0 w v X from by rw [hv0]; exact BG.refl h)
  have HPF := hide (show ∀ w' v' Y, BG w B v0 w' v' Y → PF w' B' b va ve vd L E D ∧ PAp v' b va ve vd from fun w' v' Y hb => by subst hv0; exact ⟨hp.keep2 hb.ex hap, hap.grow hp hb⟩)
  clear hv0 hap
  obtain ⟨ad, cd, rfl⟩ := own_form hp.r2
  obtain ⟨aa, ca, rfl⟩ := own_form hp.ar.r0
  have HCA := hide (show L.length ≤ ca from by
    rcases hp.ar.r0.2 with ⟨z, z2⟩ | ⟨g, cap, cur, z, -, -, hnc, -⟩
    · simp only [Value.slice.injEq] at z; omega
    · simp only [Value.slice.injEq] at z; omega)
  have HBS0 := hide hB
  have HX0 := hide hX
  have HEO := hide hE
  have HOK := hide hok
  have HDL := hide hD
  have HDT := hide (drT_len D hE hok)
  obtain ⟨Y, hY⟩ : ∃ Y, X ++ drT L E D E.length = Y := ⟨_, rfl⟩
  rw [hY]
  have HY := hide hY
  clear hY
  obtain ⟨a, c, rfl⟩ := own_form h
  clear h hB hX hok hE hp hD
  go_enter Tryz.func127, Tryz.ntmps127
  go_wp2
  go_loopw [0, 5] (fun s0 s5 wx => ∃ (a2 : Option Addr) (c2 : Nat) (Q : List Int) (i : Nat), s0 = .slice a2 Q.length c2 ∧ s5 = .int .i64 i ∧ i ≤ E.length ∧ Hid (Q = X ++ drT L E D i) ∧ BG w B v0 wx (.slice a2 Q.length c2) Q) (fun _ s5 _ => E.length - (intOf s5).toNat)
  case atStart => exact ⟨a, c, X, 0, rfl, rfl, Nat.zero_le _, hide (by simp [drT]), HBB0.out⟩
  case round =>
    clear HBB0
    obtain ⟨a2, c2, Q, i, rfl, rfl, hi, HQ, hbg⟩ := hrel
    have HBG2 := hide hbg
    have HPF2 := hide (HPF.out _ _ _ hbg)
    have HBS2 := hide (show B ≤ wr.heap.size from Nat.le_trans HBS0.out hbg.ex.size)
    have HXL2 := hide (show Q.length ≤ X.length + 10 * loP E i + 4 * i from by
      have h1 := HDT.out i hi
      rw [HQ.out, List.length_append]
      omega)
    clear hbg
    go_wp2_with fail
    refine (numSteps_any _ B' b _ ve L E HPF2.out.1.ar).mono ?_
    rintro e w3 ⟨rfl, rfl⟩
    have h4 : IntKind.i64.wrap ((i : Int) + 1) = (i : Int) + 1 := by rw [IntKind.wrap_i64]; have := HX0.out; omega
    by_cases hlt : i < E.length
    · have h1 : decide ((i : Int) < (E.length : Int)) = true := by simp; omega
      have h1n : decide (i < E.length) = true := by simp; omega
      have hlo := HEO.out.lo hlt
      have hcl := clP_len HEO.out hlt
      have hde : D[i]? = some (D.getD i false) := by rw [List.getD_eq_getElem?_getD, List.getElem?_eq_getElem (by have := HDL.out; omega)]; rfl
      have cAt := fun w' (h : PF w' B' b (.slice aa L.length ca) ve (.slice ad D.length cd) L E D) => hide (at_any w' B' b 0 aa ca ve L E h.ar HCA.out i (loP E i) (loP E (i + 1)) hlo.2.2.2 hlo.2.2.1 hlo.1 hlo.2.1 (by have := HX0.out; omega))
      have HST := hide (show Q ++ stT (D.getD i false) (clP L E i) = X ++ drT L E D (i + 1) by rw [HQ.out, drT_succ, List.append_assoc])
      obtain ⟨gd, cd', e1, hcd, hid⟩ := row_cell HPF2.out.1.r2 (i := i) (u := .bool (D.getD i false)) (by rw [List.getElem?_map, hde]; rfl)
      cases e1
      clear hde
      have HLC := hide (show Q.length + 10 * (clP L E i).length + 2 ≤ 100000000 from by have := HX0.out; have := HXL2.out; omega)
      have HCO := hide (clP_ok (E := E) HOK.out i)
      rw [show (L.take (loP E (i + 1))).drop (loP E i) = clP L E i from rfl] at cAt
      generalize clP L E i = C at *
      generalize D.getD i false = d at *
      have h2 : decide ((i : Int) < 0) = false := by simp
      have h3 : (i : Int) < (D.length : Int) := by omega
      clear hlo hcl
      have zS : w3.cell? ⟨b, 2, none⟩ = some (.slice (some ⟨gd, 0, none⟩) D.length cd) ∧ w3.cell? ⟨gd, i, none⟩ = some (.bool d) := ⟨HPF2.out.1.c2, hcd⟩
      have HZK := hide (show ∀ w' v' Y, BG w B v0 w' v' Y → (w'.cell? ⟨b, 2, none⟩ = some (.slice (some ⟨gd, 0, none⟩) D.length cd) ∧ w'.cell? ⟨gd, i, none⟩ = some (.bool d)) from fun w' v' Y hb => by
        refine ⟨(HPF.out _ _ _ hb).1.c2, ?_⟩
        have := (HPF.out _ _ _ hb).1.r2
        have k := World.ownsRow.cellAt this i (by omega)
        have k2 := World.ownsRow.cellAt HPF2.out.1.r2 i (by omega)
        rw [k, ← k2]
        exact hcd)
      clear hcd
      go_upto_region 4 with fail
      refine wp_region_held_drew (S := fun w' => w'.cell? ⟨b, 2, none⟩ = some (.slice (some ⟨gd, 0, none⟩) D.length cd) ∧ w'.cell? ⟨gd, i, none⟩ = some (.bool d)) (by kernel_rfl) zS (fun hHeld => ?_)
      refine wpAnyH_take (i := 0) (v := ?_) rfl (by kernel_rfl) (by kernel_rfl) (by kernel_rfl) (fun _ _ _ h => h) (Or.inl ⟨by rfl, ?_⟩) (by assumption) ?_
      rotate_left
      · (intro w hSw; (try dsimp only at hSw); go_simp; try (with_reducible rfl))
      try simp only [Act.put, List.getElem_toArray, List.getElem_cons_zero, List.getElem_cons_succ, List.setIfInBounds_toArray, List.set_cons_zero, List.set_cons_succ]
      refine wpAnyH_take (i := 1) (v := ?_) rfl (by kernel_rfl) (by kernel_rfl) (by kernel_rfl) (fun _ _ _ h => h) (Or.inl ⟨by rfl, ?_⟩) (by assumption) ?_
      rotate_left
      · (intro w hSw; (try dsimp only at hSw); go_simp; try (with_reducible rfl))
      try simp only [Act.put, List.getElem_toArray, List.getElem_cons_zero, List.getElem_cons_succ, List.setIfInBounds_toArray, List.set_cons_zero, List.set_cons_succ]
      refine wpAnyH_take (i := 2) (v := ?_) rfl (by kernel_rfl) (by kernel_rfl) (by kernel_rfl) (fun _ _ _ h => h) (Or.inl ⟨by rfl, ?_⟩) (by assumption) ?_
      rotate_left
      · (intro w hSw; (try dsimp only at hSw); go_simp; try (with_reducible rfl))
      try simp only [Act.put, List.getElem_toArray, List.getElem_cons_zero, List.getElem_cons_succ, List.setIfInBounds_toArray, List.set_cons_zero, List.set_cons_succ]
      refine wpAnyH_take (i := 3) (v := ?_) rfl (by kernel_rfl) (by kernel_rfl) (by kernel_rfl) (fun _ _ _ h => h) (Or.inl ⟨by rfl, ?_⟩) (by assumption) ?_
      rotate_left
      · (intro w hSw; (try dsimp only at hSw); go_simp; try (with_reducible rfl))
      try simp only [Act.put, List.getElem_toArray, List.getElem_cons_zero, List.getElem_cons_succ, List.setIfInBounds_toArray, List.set_cons_zero, List.set_cons_succ]
      refine wpAnyH_take (i := 4) (v := ?_) rfl (by kernel_rfl) (by kernel_rfl) (by kernel_rfl) (fun _ _ _ h => h) (Or.inl ⟨by rfl, ?_⟩) (by assumption) ?_
      rotate_left
      · (intro w hSw; (try dsimp only at hSw); go_simp; try (with_reducible rfl))
      try simp only [Act.put, List.getElem_toArray, List.getElem_cons_zero, List.getElem_cons_succ, List.setIfInBounds_toArray, List.set_cons_zero, List.set_cons_succ]
      refine wpAnyH_take (i := 6) (v := ?_) rfl (by kernel_rfl) (by kernel_rfl) (by kernel_rfl) (fun _ _ _ h => h) (Or.inl ⟨by rfl, ?_⟩) (by assumption) ?_
      rotate_left
      · (intro w hSw; (try dsimp only at hSw); go_simp; try (with_reducible rfl))
      try simp only [Act.put, List.getElem_toArray, List.getElem_cons_zero, List.getElem_cons_succ, List.setIfInBounds_toArray, List.set_cons_zero, List.set_cons_succ]
      refine wpAnyH_take (i := 7) (v := ?_) rfl (by kernel_rfl) (by kernel_rfl) (by kernel_rfl) (fun _ _ _ h => h) (Or.inl ⟨by rfl, ?_⟩) (by assumption) ?_
      rotate_left
      · (intro w hSw; (try dsimp only at hSw); go_simp; try (with_reducible rfl))
      try simp only [Act.put, List.getElem_toArray, List.getElem_cons_zero, List.getElem_cons_succ, List.setIfInBounds_toArray, List.set_cons_zero, List.set_cons_succ]
      refine wpAnyH_take (i := 8) (v := ?_) rfl (by kernel_rfl) (by kernel_rfl) (by kernel_rfl) (fun _ _ _ h => h) (Or.inl ⟨by rfl, ?_⟩) (by assumption) ?_
      rotate_left
      · (intro w hSw; (try dsimp only at hSw); go_simp; try (with_reducible rfl))
      try simp only [Act.put, List.getElem_toArray, List.getElem_cons_zero, List.getElem_cons_succ, List.setIfInBounds_toArray, List.set_cons_zero, List.set_cons_succ]
      refine wpAnyH_take (i := 9) (v := ?_) rfl (by kernel_rfl) (by kernel_rfl) (by kernel_rfl) (fun _ _ _ h => h) (Or.inl ⟨by rfl, ?_⟩) (by assumption) ?_
      rotate_left
      · (intro w hSw; (try dsimp only at hSw); ((obtain ⟨z1, z2⟩ := hSw)); go_simp; try (with_reducible rfl))
      try simp only [Act.put, List.getElem_toArray, List.getElem_cons_zero, List.getElem_cons_succ, List.setIfInBounds_toArray, List.set_cons_zero, List.set_cons_succ]
      refine wpAnyH_take (i := 10) (v := ?_) rfl (by kernel_rfl) (by kernel_rfl) (by kernel_rfl) (fun _ _ _ h => h) (Or.inl ⟨by rfl, ?_⟩) (by assumption) ?_
      rotate_left
      · (intro w hSw; (try dsimp only at hSw); go_simp; try (with_reducible rfl))
      try simp only [Act.put, List.getElem_toArray, List.getElem_cons_zero, List.getElem_cons_succ, List.setIfInBounds_toArray, List.set_cons_zero, List.set_cons_succ]
      refine wpAnyH_take (i := 11) (v := ?_) rfl (by kernel_rfl) (by kernel_rfl) (by kernel_rfl) (fun _ _ _ h => h) (Or.inl ⟨by rfl, ?_⟩) (by assumption) ?_
      rotate_left
      · (intro w hSw; (try dsimp only at hSw); go_simp; try (with_reducible rfl))
      try simp only [Act.put, List.getElem_toArray, List.getElem_cons_zero, List.getElem_cons_succ, List.setIfInBounds_toArray, List.set_cons_zero, List.set_cons_succ]
      refine wpAnyH_take (i := 12) (v := ?_) rfl (by kernel_rfl) (by kernel_rfl) (by kernel_rfl) (fun _ _ _ h => h) (Or.inl ⟨by rfl, ?_⟩) (by assumption) ?_
      rotate_left
      · (intro w hSw; (try dsimp only at hSw); ((obtain ⟨z1, z2⟩ := hSw)); go_simp; try (with_reducible rfl))
      try simp only [Act.put, List.getElem_toArray, List.getElem_cons_zero, List.getElem_cons_succ, List.setIfInBounds_toArray, List.set_cons_zero, List.set_cons_succ]
      refine wpAnyH_ready (rs := [5]) (by kernel_rfl) (by simp) ?_
      refine (AllReadyH.cons rfl (fun K hK => ?_) AllReadyH.nil)
      · refine step_call rfl 109 #[.pointer (some ⟨b, 0, none⟩), .int .i64 i] (by simp [go_sem]) (cAt _ (HPF2.out.1.below ((Below.refl _ _).drew))).out ?_
        rintro e w5 ⟨a5, c5, rfl, hc5, ho5, b5⟩
        replace b5 := of_drew b5
        have HBG5 := hide (HBG2.out.below b5)
        have zS5 := HZK.out _ _ _ HBG5.out
        have HC5 := hide hc5
        have HO5 := hide ho5
        have sz5 := b5.size
        clear b5 hc5 ho5
        refine ⟨_, rfl, ?_⟩
        refine hK.out _ _ ?_ (fun hHeld => ?_)
        · (first | with_reducible exact zS6 | with_reducible exact zS5 | with_reducible exact zS | exact zS5 | exact zS)
        clear hK K
        try simp only [Act.put, List.getElem_toArray, List.getElem_cons_zero, List.getElem_cons_succ, List.setIfInBounds_toArray, List.set_cons_zero, List.set_cons_succ]
        refine wpAnyH_ready (rs := [13]) (by kernel_rfl) (by simp) ?_
        refine (AllReadyH.cons rfl (fun K hK => ?_) AllReadyH.nil)
        · refine step_call rfl 65 #[.slice a2 Q.length c2, .slice a5 C.length c5, .bool d] (by simp [go_sem]) (appendStep_any _ B _ Q a5 c5 C d HBG5.out.bb (Nat.le_trans HBS2.out sz5) HC5.out (fun g o e z => ((HPF.out _ _ _ HBG5.out).2 g z).2.1 (HO5.out g o e)) (fun g o e => ((HPF.out _ _ _ HBG5.out).1.ar.r0.lt g (HO5.out g o e)).2) HCO.out HLC.out) ?_
          rintro e w6 ⟨v6, rfl, hb6⟩
          have HBG6 := hide (HBG5.out.trans hb6)
          have zS6 := HZK.out _ _ _ HBG6.out
          clear hb6
          refine ⟨_, rfl, ?_⟩
          refine hK.out _ _ ?_ (fun hHeld => ?_)
          · (first | with_reducible exact zS6 | with_reducible exact zS5 | with_reducible exact zS | exact zS5 | exact zS)
          clear hK K
          try simp only [Act.put, List.getElem_toArray, List.getElem_cons_zero, List.getElem_cons_succ, List.setIfInBounds_toArray, List.set_cons_zero, List.set_cons_succ]
          refine wpAnyH_take (i := 14) (v := ?_) rfl (by kernel_rfl) (by kernel_rfl) (by kernel_rfl) (fun _ _ _ h => h) (Or.inl ⟨by rfl, ?_⟩) (by assumption) ?_
          rotate_left
          · (intro w hSw; (try dsimp only at hSw); go_simp; try (with_reducible rfl))
          try simp only [Act.put, List.getElem_toArray, List.getElem_cons_zero, List.getElem_cons_succ, List.setIfInBounds_toArray, List.set_cons_zero, List.set_cons_succ]
          refine wpAnyH_done (by kernel_rfl) ?_ _
          clear zS zS5 zS6 HZK cAt
          obtain ⟨Q6, hQ6⟩ : ∃ Q6, Q ++ stT d C = Q6 := ⟨_, rfl⟩
          rw [hQ6] at HBG6 HST
          obtain ⟨a6, c6, rfl⟩ := own_form HBG6.out.bb
          go_wp2
          go_roundw
          case rel => exact ⟨a6, c6, Q6, i + 1, rfl, by simp, by omega, HST, HBG6.out⟩
          case measure => simp [intOf]; omega
    · have h1 : decide ((i : Int) < (E.length : Int)) = false := by simp; omega
      have h1n : decide (i < E.length) = false := by simp; omega
      have HPO := hide (show ApPost w B v0 Y (.returned (.slice a2 Q.length c2)) w3 from ⟨_, rfl, by rw [← HY.out, show E.length = i by omega, ← HQ.out]; exact HBG2.out⟩)
      go_wp2
      exact bodyPost_ret (v := .slice a2 Q.length c2) (by simp [results, Tryz.results127, go_sem]) rfl HPO.out
end Go.Proofs.Qxb6500773aGreat
