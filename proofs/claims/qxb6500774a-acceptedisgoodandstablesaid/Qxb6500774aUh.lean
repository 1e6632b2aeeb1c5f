import Derived.OrdersHeld
import Derived.Deep.RegionHeld
namespace Go.Proofs.Qxb6500774a
open Go

/-! ### A region whose last operation is a store into cells that it has read: S holds behind every operation but that one -/
section
variable {P : Program} {ops : Array Oper} {Q : Exit → Act → World → Prop} {md : Region.Mode} {S : World → Prop} {z : Nat}
def wpAnyU (P : Program) (md : Region.Mode) (ops : Array Oper) (Q : Exit → Act → World → Prop) (S : World → Prop) (z : Nat) : Nat → Array Bool → Act → World → Prop
  | 0, listed, a, w => Region.ready md ops listed = [] ∧ Q .normal a w
  | fuel + 1, listed, a, w =>
    (Region.ready md ops listed = [] → Q .normal a w) ∧
    ∀ i ∈ Region.ready md ops listed, wpOp P ops Q i (fun a' w' => (i ≠ z → S w') ∧ wpAnyU P md ops Q S z fuel (listed.setIfInBounds i true) a' w') a w
theorem wpAny_of_until : ∀ (fuel : Nat) (listed : Array Bool) (a : Act) (w : World), wpAnyU P md ops Q S z fuel listed a w → wpAny P md ops Q fuel listed a w
  | 0, _, _, _, h => h
  | fuel + 1, _, _, _, h => ⟨h.1, fun i hi => wpOp_mono (fun a' w' h' => wpAny_of_until fuel _ a' w' h'.2) (h.2 i hi)⟩
/-- y waits for x -/
def waits (md : Region.Mode) (ops : Array Oper) (x y : Nat) : Bool := match ops[y]? with
  | some o => o.after.any fun e => Region.binds md e && e.on == x
  | none => false
def chain (md : Region.Mode) (ops : Array Oper) : Nat → List Nat → Bool
  | _, [] => true
  | x, y :: r => waits md ops x y && chain md ops y r
def ZC (listed : Array Bool) : Nat → List Nat → Bool
  | _, [] => true
  | x, y :: r => (!listed.getD y false || listed.getD x false) && ZC listed y r
def lastOf : Nat → List Nat → Nat
  | x, [] => x
  | _, y :: r => lastOf y r
theorem waits_spec {x y : Nat} {listed : Array Bool} (h : waits md ops x y = true) (hy : y ∈ Region.ready md ops listed) : listed.getD x false = true := by
  obtain ⟨_, o, ho, hall⟩ := mem_ready.1 hy
  unfold waits at h
  rw [ho] at h
  obtain ⟨e, he, hb⟩ := Array.any_eq_true'.1 h
  simp only [Bool.and_eq_true, beq_iff_eq] at hb
  have := hall e he hb.1
  rw [hb.2] at this
  exact this
theorem zc_last {listed : Array Bool} : ∀ (r : List Nat) (x : Nat), chain md ops x r = true → ZC listed x r = true → r ≠ [] → listed.getD x false ≠ true → lastOf x r ∉ Region.ready md ops listed := by
  intro r
  induction r with
  | nil => intro x _ _ h; exact absurd rfl h
  | cons y r ih =>
    intro x hc hz _ hx hm
    unfold chain at hc
    unfold ZC at hz
    simp only [Bool.and_eq_true, Bool.or_eq_true, Bool.not_eq_true'] at hc hz
    cases r with
    | nil => exact hx (waits_spec hc.1 hm)
    | cons u r =>
      refine ih y hc.2 hz.2 (by simp) ?_ hm
      rcases hz.1 with q | q
      · rw [q]; exact Bool.false_ne_true
      · exact absurd q hx
theorem zc_step {listed : Array Bool} {j : Nat} (hj : j ∈ Region.ready md ops listed) : ∀ (r : List Nat) (x : Nat), chain md ops x r = true → ZC listed x r = true → ZC (listed.setIfInBounds j true) x r = true := by
  intro r
  induction r with
  | nil => intro x _ _; rfl
  | cons y r ih =>
    intro x hc hz
    unfold chain at hc
    unfold ZC at hz ⊢
    simp only [Bool.and_eq_true, Bool.or_eq_true, Bool.not_eq_true'] at hc hz ⊢
    refine ⟨?_, ih y hc.2 hz.2⟩
    by_cases hyj : j = y
    · subst hyj
      exact .inr (getD_set_true (waits_spec hc.1 hj))
    · rcases hz.1 with q | q
      · left
        rw [getD_set_ne false hyj]
        exact q
      · exact .inr (getD_set_true q)
theorem wpAnyU_first {i : Nat} {oi : Oper} {v : Value} {r : List Nat} (hi : ops[i]? = some oi) (hsel : ∀ (j : Nat) (o : Oper) cs b, ops[j]? = some o → o.op ≠ .select cs b)
    (hQ : ∀ c a w, Q (.panic c) (a.put oi.dst v) w → Q (.panic c) a w) (hch : chain md ops i r = true) (hrn : r ≠ []) (hlast : lastOf i r = z) :
    ∀ (fuel : Nat) (listed : Array Bool) (a : Act) (w : World),
      (∀ j oj, ops[j]? = some oj → j ≠ i → listed.getD j true = false → (∀ e ∈ oj.after, Region.binds md e = true → e.on ≠ i) → oi.apart ops oj = true) →
      i ∈ Region.ready md ops listed → ZC listed i r = true → YieldsIf P ops S oi v a → S w →
      wpAnyU P md ops Q S z fuel (listed.setIfInBounds i true) (a.put oi.dst v) w → wpAnyU P md ops Q S z (fuel + 1) listed a w := by
  intro fuel
  induction fuel with
  | zero =>
    intro listed a w _ hr _ hy hS H
    refine ⟨fun h => (by rw [h] at hr; cases hr), fun j hj => ?_⟩
    by_cases hji : j = i
    · subst hji; exact hy.wpOp hi hS ⟨fun _ => hS, H⟩
    · have := ready_mono hj hji
      rw [H.1] at this
      cases this
  | succ fuel ih =>
    intro listed a w hfree hr hzc hy hS H
    refine ⟨fun h => (by rw [h] at hr; cases hr), fun j hj => ?_⟩
    by_cases hji : j = i
    · subst hji; exact hy.wpOp hi hS ⟨fun _ => hS, H⟩
    · have h1 := H.2 j (ready_mono hj hji)
      obtain ⟨hjun, oj, hoj, hall⟩ := mem_ready.1 hj
      have h0 := (mem_ready.1 hr).1
      have hu : listed.getD i false ≠ true := by
        rcases Nat.lt_or_ge i listed.size with h' | h'
        · simp [h'] at h0 ⊢; exact h0
        · simp [Array.getElem?_eq_none h'] 
      have hnot : ∀ e ∈ oj.after, Region.binds md e = true → e.on ≠ i := fun e he hb heq => by
        have h1 := hall e he hb
        rw [heq] at h1
        exact hu h1
      have hjz : j ≠ z := fun q => by
        rw [q, ← hlast] at hj
        exact zc_last r i hch hzc hrn hu hj
      have h2 := wpOp_putIf hoj (hfree j oj hoj hji hjun hnot) (fun cs b => hsel i oi cs b hi) (fun cs b => hsel j oj cs b hoj) hQ hy h1
      have hfree' : ∀ k ok, ops[k]? = some ok → k ≠ i → (listed.setIfInBounds j true).getD k true = false →
          (∀ e ∈ ok.after, Region.binds md e = true → e.on ≠ i) → oi.apart ops ok = true := fun k ok hk hki hun hno => by
        refine hfree k ok hk hki ?_ hno
        by_cases hjk : j = k
        · subst hjk; exact hjun
        · rw [getD_set_ne true hjk] at hun; exact hun
      refine wpOp_mono (fun a' w' h3 => ⟨h3.2.1, ih (listed.setIfInBounds j true) a' w' hfree' (ready_mono hr (Ne.symm hji)) (zc_step hj r i hch hzc) h3.1 (h3.2.1 hjz) ?_⟩) h2
      rw [Array.setIfInBounds_comm _ _ hji]
      exact h3.2.2
/-- take number i first; r = the way from i to the last one -/
theorem wpAnyU_take {i : Nat} {oi : Oper} {v : Value} {fuel : Nat} {listed : Array Bool} {a : Act} {w : World} (r : List Nat) (hi : ops[i]? = some oi)
    (hs : Region.noSelect ops = true) (hf : Region.free md ops listed i = true) (hr : (Region.ready md ops listed).contains i = true)
    (hch : (chain md ops i r && ZC listed i r && !r.isEmpty && (lastOf i r == z)) = true)
    (hQ : ∀ c a w, Q (.panic c) (a.put oi.dst v) w → Q (.panic c) a w) (hy : YieldsIf P ops S oi v a) (hS : S w)
    (h : wpAnyU P md ops Q S z fuel (listed.setIfInBounds i true) (a.put oi.dst v) w) : wpAnyU P md ops Q S z (fuel + 1) listed a w := by
  simp only [Bool.and_eq_true, Bool.not_eq_true', beq_iff_eq] at hch
  exact wpAnyU_first hi (Region.noSelect_spec hs) hQ hch.1.1.1 (by intro q; rw [q] at hch; exact absurd hch.1.2 (by simp)) hch.2 fuel listed a w (Region.free_spec hi hf) (by simpa using hr) hch.1.1.2 hy hS h
def AllReadyU (P : Program) (md : Region.Mode) (ops : Array Oper) (Q : Exit → Act → World → Prop) (S : World → Prop) (z : Nat) (fuel : Nat) (listed : Array Bool) (a : Act) (w : World) (rs : List Nat) : Prop :=
  ∀ i ∈ rs, wpOp P ops Q i (fun a' w' => (i ≠ z → S w') ∧ wpAnyU P md ops Q S z fuel (listed.setIfInBounds i true) a' w') a w
theorem AllReadyU.nil {fuel : Nat} {listed : Array Bool} {a : Act} {w : World} : AllReadyU P md ops Q S z fuel listed a w [] := fun _ h => by cases h
theorem AllReadyU.cons {fuel : Nat} {listed : Array Bool} {a : Act} {w : World} {i : Nat} {o : Oper} {rs : List Nat} (ho : ops[i]? = some o)
    (h : ∀ K' : Act → World → Prop, Shut (∀ a w, S w → (S w → wpAnyU P md ops Q S z fuel (listed.setIfInBounds i true) a w) → K' a w) → if Region.wanted o (yielded ops a.tmps) = true then Oper.wp P o a w K' Q else K' (a.put o.dst undef) w)
    (hs : AllReadyU P md ops Q S z fuel listed a w rs) : AllReadyU P md ops Q S z fuel listed a w (i :: rs) := fun j hj => by
  rcases List.mem_cons.1 hj with rfl | hj
  · exact wpOp_step ho (fun K' hK => h K' (fun a w hS hW => hK a w ⟨fun _ => hS, hW hS⟩))
  · exact hs j hj
/-- the last one -/
theorem AllReadyU.last {fuel : Nat} {listed : Array Bool} {a : Act} {w : World} {o : Oper} (ho : ops[z]? = some o)
    (h : ∀ K' : Act → World → Prop, Shut (∀ a w, wpAnyU P md ops Q S z fuel (listed.setIfInBounds z true) a w → K' a w) → if Region.wanted o (yielded ops a.tmps) = true then Oper.wp P o a w K' Q else K' (a.put o.dst undef) w) :
    AllReadyU P md ops Q S z fuel listed a w [z] := fun j hj => by
  have e : j = z := by simpa using hj
  subst e
  exact wpOp_step ho (fun K' hK => h K' (fun a w hW => hK a w ⟨fun q => absurd rfl q, hW⟩))
theorem wpAnyU_ready {rs : List Nat} {fuel : Nat} {listed : Array Bool} {a : Act} {w : World} (hr : Region.ready md ops listed = rs) (hne : rs ≠ [])
    (h : AllReadyU P md ops Q S z fuel listed a w rs) : wpAnyU P md ops Q S z (fuel + 1) listed a w :=
  ⟨fun h0 => absurd (hr ▸ h0) hne, hr ▸ h⟩
theorem wpAnyU_done {listed : Array Bool} {a : Act} {w : World} (hr : Region.ready md ops listed = []) (h : Q .normal a w) :
    ∀ fuel, wpAnyU P md ops Q S z fuel listed a w
  | 0 => ⟨hr, h⟩
  | _ + 1 => ⟨fun _ => h, by rw [hr]; simp⟩
theorem wp_region_until {id : Nat} {a : Act} {w : World} (S : World → Prop) (z : Nat) (hm : P.follows .mixedOrders = true) (hS : S w.drew)
    (h : S w.drew → wpAnyU P .any ops Q S z ops.size (Array.replicate ops.size false) a w.drew) : (Code.region id ops true).wp P Q a w :=
  wp_region_any hm (wpAny_of_until _ _ _ _ (h hS))
end
end Go.Proofs.Qxb6500774a
