import Derived.Test.Qxb6500784aSi2
import Derived.Test.Qxb6500784aLeastP
namespace Go.Proofs.Qxb6500784a
open Go.RowKit

theorem firstCode_all {L : Nat → Leg} : ∀ {k i : Nat}, firstCode L k i = 0 → ∀ j, i ≤ j → j < i + k → legCode (L j) = 0
  | 0, i, _, j, h1, h2 => by omega
  | k + 1, i, h, j, h1, h2 => by
    unfold firstCode at h
    split at h
    · rename_i hz
      by_cases e : j = i
      · rw [e]; exact hz
      · exact firstCode_all h j (by omega) (by omega)
    · rename_i hz; exact absurd h hz
/-- The order of a bundle that has one. -/
noncomputable def ordP (n : Nat) (L : Nat → Leg) : List Nat := (sortP n (needM n L)).1
theorem ord_facts {n : Nat} {L : Nat → Leg} (h : ordCode n L = 0) : 0 < n ∧ n ≤ 8 ∧ (ordP n L).length = n ∧ (ordP n L).Nodup ∧ (∀ x, x ∈ ordP n L → x < n) ∧ ∀ x, x < n → ((L x).ch = 1 ∨ (L x).ch = 2) ∧ (L x).tch = (L x).ch := by
  have hb : bCode n L = 0 := by
    apply Classical.byContradiction
    intro e
    rw [ordCode_bad e] at h
    exact e h
  have hs : stuckP n (needM n L) = 0 := by
    apply Classical.byContradiction
    intro e
    rw [ordCode_cyc hb e] at h
    cases h
  obtain ⟨h0, h8⟩ := bCode_zero hb
  have hm : ∀ i j, (needM n L i).testBit j = true → j < n := fun i j e => ((needM_spec n L i j).1 e).2.1
  have inv := sortF_inv h8 hm n 0 [] (sinv_nil n _)
  have hf : firstCode L n 0 = 0 := by
    unfold bCode at hb
    rw [if_neg (by omega), if_neg (by omega)] at hb
    split at hb
    · rename_i e; exact absurd hb e
    · rename_i e; exact Classical.not_not.1 e
  refine ⟨h0, h8, ?_, inv.nodup, inv.mem, fun x hx => ?_⟩
  · apply Classical.byContradiction
    intro e
    have e' : (sortP n (needM n L)).1.length ≠ n := e
    have hle : (sortP n (needM n L)).1.length ≤ n := by
      have := sub_len _ (List.range n) inv.nodup (fun x hx => List.mem_range.2 (inv.mem x hx))
      rw [List.length_range] at this
      exact this
    -- some place is not in the order: its bit is stuck
    have : ∃ x, x < n ∧ x ∉ (sortP n (needM n L)).1 := by
      apply Classical.byContradiction
      intro ne
      have hall : ∀ x, x ∈ List.range n → x ∈ (sortP n (needM n L)).1 := fun x hx => Classical.byContradiction fun hne => ne ⟨x, List.mem_range.1 hx, hne⟩
      have := sub_len (List.range n) _ List.nodup_range hall
      rw [List.length_range] at this
      omega
    obtain ⟨x, hx, hxm⟩ := this
    have hbit : (sortP n (needM n L)).2.testBit x = false := by
      cases hh : (sortP n (needM n L)).2.testBit x
      · rfl
      · exact absurd ((inv.bit x).1 hh) hxm
    have := stuck_bit' h8 hx e' hbit
    rw [hs] at this
    simp at this
  · have := firstCode_all hf x (Nat.zero_le _) (by omega)
    unfold legCode at this
    split at this
    · rename_i hc
      split at this
      · rename_i ht; exact ⟨hc, ht⟩
      · cases this
    · cases this
/-! ### simulate: what it answers -/
def ordI (o : List Nat) : List Int := o.map fun (x : Nat) => (x : Int)
theorem ordI_vals (o : List Nat) : i64s (ordI o) = vals o := by simp [i64s, ordI, vals]
noncomputable def simK (P : Pr) (n : Nat) (L : Nat → Leg) (T : Nat → List Int) (v : Value) : Pr × Rs × Int × Int := runK L T (ordP n L) (opened P) (res0 (ordI (ordP n L)) v)
open Classical in
noncomputable def simR (P : Pr) (n : Nat) (L : Nat → Leg) (T : Nat → List Int) (v : Value) : Rs :=
  if ordCode n L ≠ 0 then refR (ordCode n L) (-1) else if ¬ shallow P then refR 34 (-1)
  else if (simK P n L T v).2.2.1 ≠ 0 then refR (simK P n L T v).2.2.1 (simK P n L T v).2.2.2
  else { (simK P n L T v).2.1 with ra := rootP (simK P n L T v).1.la, rb := rootP (simK P n L T v).1.lb }
open Classical in
noncomputable def simS (kp : Bool) (P : Pr) (n : Nat) (L : Nat → Leg) (T : Nat → List Int) : Pr :=
  if kp = true ∧ ordCode n L = 0 ∧ shallow P ∧ (simK P n L T nilS).2.2.1 = 0 then kept (simK P n L T nilS).1 P else P
/-- The lists are short. -/
structure Bnd (z : Nat) (P : Pr) : Prop where
  m : ∀ c, (P.led c).mks.length ≤ z
  o : ∀ c, (P.box c).out.length ≤ z
  i : ∀ c, (P.box c).inb.length ≤ z
theorem LW.fin {w w4 wz : World} {b E : Nat} {S S3 C4 Sz C : List Nat} {P' : Pr} {r : Rs} {X : List (Nat × List Value)} (k : Link w b S w4 S3) (h : LW w4 b E S3 C4 wz P' Sz r C X) (hE : w.heap.size ≤ E) (hC : ∀ j, j ∈ C4 → w.heap.size ≤ j) : Link w b S wz Sz ∧ ∀ j, j ∈ C → w.heap.size ≤ j ∧ j ∉ Sz := by
  refine ⟨⟨k.1.trans2 h.ex (fun j hj => ?_), fun j hj => ?_⟩, fun j hj => ⟨?_, fun e => h.rw.SC j e hj⟩⟩
  · rcases hj with z | z | z | z
    · exact .inl (.inl z)
    · exact (k.2 j z).imp .inr id
    · exact .inr (by rw [z]; exact hE)
    · exact .inr (hC j z)
  · rcases h.fs j hj with z | z
    · exact k.2 j z
    · right; have := k.1.size; omega
  · rcases h.fc j hj with z | z
    · exact hC j z
    · have := k.1.size; omega
theorem LW.at' {w0 w : World} {b d : Nat} {S0 C0 S C : List Nat} {P : Pr} {r : Rs} {X : List (Nat × List Value)} (h : LW w0 b d S0 C0 w P S r C X) {q : Nat} {cs : List Value} (hq : (q, cs) ∈ X) {j : Nat} {u : Value} (hj : cs[j]? = some u) : w.cell? ⟨q, j, none⟩ = some u := by
  have := (h.lo _ hq).rg j u hj
  rwa [Nat.zero_add] at this
theorem blk1 (v : Value) : (List.filterMap Value.ownBlock [v, nilS, nilS]).Nodup := by
  rw [List.filterMap_cons]
  split
  · exact List.nodup_nil
  · exact List.nodup_cons.2 ⟨by show _ ∉ []; simp, List.nodup_nil⟩
/-- The beginning of a run. -/
theorem lw_start {w1 w2 w3 : World} {b D : Nat} {S S3 : List Nat} {P : Pr} {o : List Nat} {va : Option Addr} {vc : Nat} {u : Value} {Z : List Value} (hD : S = S ∧ ∀ k, k ∈ S → k < D) (hb : b < D)
    (hs1 : w1.heap.size = D + 2) (hcl : w1.rangeAt D 0 [u]) (hct : w1.there D 0 1) (hzr : w1.rangeAt (D + 1) 0 Z) (hzt : w1.there (D + 1) 0 Z.length) (hB2 : Below w1.heap.size w1 w2) (hv : w2.ownsRow w1.heap.size 3 1 (.slice va o.length vc) o.length (vals o))
    (hk : Link w2 b S w3 S3) (hp : PP w3 b (opened P) S3) (F0 : List Value) (hF : (res0 (ordI o) (.slice va o.length vc)).vals (.slice va o.length vc) nilS nilS = F0) {w4 : World} (hr : w4.rangeAt w3.heap.size 0 F0) (ht : w4.there w3.heap.size 0 70) (hbe : Below w3.heap.size w3 w4) (hz4 : w4.heap.size = w3.heap.size + 1) :
    ∃ C4, LW w4 b w3.heap.size S3 C4 w4 (opened P) S3 (res0 (ordI o) (.slice va o.length vc)) C4 [(D, [u]), (D + 1, Z)] ∧ ∀ k, k ∈ C4 → D + 2 ≤ k := by
  have b2 := hB2.size
  have b3 := hk.1.size
  have hvl : ∀ k, (Value.slice va o.length vc).ownBlock = some k → D + 2 ≤ k ∧ k < w2.heap.size := fun k e => by have := hv.lt k e; omega
  have o23 : ∀ k, k < w2.heap.size → D ≤ k → ¬ (k = b ∨ k ∈ S) ∧ k ∉ S3 := fun k h1 h2 => ⟨fun e => e.elim (by omega) (fun z => by have := hD.2 k z; omega), fun e => by
    rcases hk.2 k e with z | z
    · have := hD.2 k z; omega
    · omega⟩
  have hC : ∀ k, k ∈ blks [Value.slice va o.length vc, nilS, nilS] → (Value.slice va o.length vc).ownBlock = some k := fun k hk => by
    obtain ⟨v, hv, e⟩ := mem_blks.1 hk
    simp only [List.mem_cons, List.not_mem_nil, or_false] at hv
    rcases hv with rfl | rfl | rfl
    · exact e
    · cases e
    · cases e
  have hv3 : w3.ownsRow w1.heap.size 3 1 (.slice va o.length vc) o.length (vals o) := own_kept hv hk.1 (fun k e => (o23 k (hvl k e).2 (by have := (hvl k e).1; omega)).1)
  have hv4 : w4.ownsRow w1.heap.size 3 1 (.slice va o.length vc) o.length (vals o) := own_kept hv3 (Ex.of (S := fun _ => False) hbe) (fun _ _ e => e)
  have hbl := hp.bl
  have hrw : RW w4 b (opened P) S3 w3.heap.size (res0 (ordI o) (.slice va o.length vc)) (blks [Value.slice va o.length vc, nilS, nilS]) := by
    refine ⟨hp.below hbe, ⟨.slice va o.length vc, nilS, nilS, by rw [hF]; exact hr, ⟨?_, World.ownsRow_nil _ _ _ _, World.ownsRow_nil _ _ _ _, rfl, ?_, rfl⟩⟩, ht, res0_ok _ _, by omega, by omega, fun e => by have := hp.lt e; omega, fun e => ?_, fun e => ?_, fun k hk hc => ?_⟩
    · show w4.ownsRow 0 3 1 _ (ordI o).length (i64s (ordI o))
      rw [ordI_vals, show (ordI o).length = o.length by simp [ordI]]
      exact ownsRow_base hv4 (Nat.zero_le _)
    · show (List.filterMap Value.ownBlock [Value.slice va o.length vc, nilS, nilS]).Nodup
      exact blk1 _
    · have := hvl _ (hC _ e); omega
    · have := hvl _ (hC _ e); omega
    · have h1 := hvl _ (hC _ hc)
      exact (o23 k h1.2 (by omega)).2 hk
  refine ⟨_, ⟨hrw, fun p hp => ?_, Ex.refl _ _, fun _ h => .inl h, fun _ h => .inl h, by simp⟩, fun k hk => (hvl k (hC k hk)).1⟩
  have loc : ∀ q cs, D ≤ q → q < D + 2 → w1.rangeAt q 0 cs → w1.there q 0 cs.length → Loc w4 b S3 w3.heap.size (blks [Value.slice va o.length vc, nilS, nilS]) q cs := fun q cs h1 h2 h3 h4 => by
    have q1 := o23 q (by omega) h1
    have r2 := range_below h3 (by omega) hB2
    have t2 := there_below h4 (by omega) hB2
    have r3 := range_ex r2 (by omega) hk.1 q1.1
    have t3 := there_ex t2 (by omega) hk.1 q1.1
    exact ⟨range_below r3 (by omega) hbe, there_below t3 (by omega) hbe, by omega, by omega, q1.2, by omega, fun e => by have := hvl _ (hC _ e); omega⟩
  simp only [List.mem_cons, List.not_mem_nil, or_false] at hp
  rcases hp with rfl | rfl
  · exact loc D [u] (by omega) (by omega) hcl hct
  · exact loc (D + 1) Z (by omega) (by omega) hzr hzt
theorem runK_indep {L : Nat → Leg} {T : Nat → List Int} : ∀ (is : List Nat) (P : Pr) (r r' : Rs), (runK L T is P r).1 = (runK L T is P r').1 ∧ (runK L T is P r).2.2 = (runK L T is P r').2.2
  | [], P, r, r' => ⟨rfl, rfl⟩
  | i :: is, P, r, r' => by
    rw [runK, runK]
    split
    · exact runK_indep is _ _ _
    · exact ⟨rfl, rfl⟩
theorem sim_fail {P : Pr} {n : Nat} {L : Nat → Leg} {T : Nat → List Int} {v : Value} {Q : Pr} {r : Rs} {c f : Int} (hc : ordCode n L = 0) (hs : shallow P) (hK : simK P n L T v = (Q, r, c, f)) (hn : c ≠ 0) (kp : Bool) : simR P n L T v = refR c f ∧ simS kp P n L T = P := by
  constructor
  · unfold simR
    rw [if_neg (by simp [hc]), if_neg (by simp [hs]), hK, if_pos hn]
  · unfold simS
    rw [if_neg]
    rintro ⟨_, _, _, h⟩
    have := (runK_indep (L := L) (T := T) (ordP n L) (opened P) (res0 (ordI (ordP n L)) nilS) (res0 (ordI (ordP n L)) v)).2
    have e : (simK P n L T nilS).2.2 = (simK P n L T v).2.2 := this
    rw [e, hK] at h
    exact hn h
theorem sim_ok {P : Pr} {n : Nat} {L : Nat → Leg} {T : Nat → List Int} {v : Value} {Q : Pr} {r : Rs} (hc : ordCode n L = 0) (hs : shallow P) (hK : simK P n L T v = (Q, r, 0, -1)) (kp : Bool) : simR P n L T v = { r with ra := rootP Q.la, rb := rootP Q.lb } ∧ simS kp P n L T = if kp = true then kept Q P else P := by
  constructor
  · unfold simR
    rw [if_neg (by simp [hc]), if_neg (by simp [hs]), hK, if_neg (by simp)]
  · have h1 := runK_indep (L := L) (T := T) (ordP n L) (opened P) (res0 (ordI (ordP n L)) nilS) (res0 (ordI (ordP n L)) v)
    have e1 : (simK P n L T nilS).1 = (simK P n L T v).1 := h1.1
    have e2 : (simK P n L T nilS).2.2 = (simK P n L T v).2.2 := h1.2
    unfold simS
    rw [e1, e2, hK]
    cases kp
    · rw [if_neg (by simp), if_neg (by simp)]
    · rw [if_pos ⟨rfl, hc, hs, rfl⟩, if_pos rfl]
theorem new2r (w : World) (u : Value) : ((w.alloc (.cells #[u] 27)).alloc (.cells Try.zeroCells65 65)).rangeAt w.heap.size 0 [u] ∧ ((w.alloc (.cells #[u] 27)).alloc (.cells Try.zeroCells65 65)).rangeAt (w.heap.size + 1) 0 Try.zeroCells65.toList := by
  have b2 := be1 (w.alloc (.cells #[u] 27)) (.cells Try.zeroCells65 65)
  refine ⟨range_below (newR w [u] 27) (by simp) b2, ?_⟩
  have := newR (w.alloc (.cells #[u] 27)) Try.zeroCells65.toList 65
  have e : (w.alloc (.cells #[u] 27)).heap.size = w.heap.size + 1 := by simp
  rw [e] at this
  simpa using this
theorem bnd_step {z : Nat} {P : Pr} (h : Bnd z P) (c : Int) (t : List Int) : Bnd (z + 1) (legS P c t) := by
  obtain ⟨h1, h2, h3⟩ := legS_len P c t z h.m h.o h.i
  exact ⟨h1, h2, h3⟩
theorem bnd_open {z : Nat} {P : Pr} (h : Bnd z P) : Bnd z (opened P) := ⟨h.m, h.o, h.i⟩
theorem legRange {w : World} {b o : Nat} {l : Leg} (h : ∀ j, j < 86 → w.cell? ⟨b, o + j, none⟩ = some (l.v j)) : w.rangeAt b o (legL l) := legLoad w b o l h
theorem below_of {W w : World} {b : Nat} {S S' : List Nat} {w' : World} (h : Below W.heap.size W w) (hb : W.heap.size ≤ b) (hS : ∀ k, k ∈ S → W.heap.size ≤ k) (k : Link w b S w' S') : Below W.heap.size W w' :=
  h.trans (k.1.below h.size (fun j hj e => by
    rcases e with z | z
    · omega
    · have := hS j z; omega))
end Go.Proofs.Qxb6500784a
