import Derived.Test.Qxb6500773aGreatZR
namespace Go.Proofs.Qxb6500773aGreat
set_option maxRecDepth 100000
open Go.RowKit

def FcPost (w : World) (B : Nat) (nv : Int) (L E : List Int) (e : Ending) (w' : World) : Prop :=
  ∃ b va ve, e = .returned (.pointer (some ⟨b, 0, none⟩)) ∧ FF w' B b va ve nv L E ∧ w.heap.size ≤ b ∧ (∀ j, va.ownBlock = some j → w.heap.size ≤ j) ∧ (∀ j, ve.ownBlock = some j → w.heap.size ≤ j) ∧ Ex (fun _ => False) w w'
theorem ff_made {w : World} {B : Nat} {va ve : Value} {nv : Int} {L E : List Int} (h1 : w.ownsRow B 64 1 va L.length (L.map (Value.int .i32))) (h2 : w.ownsRow B 3 1 ve E.length (E.map (Value.int .i64))) (d1 : ∀ k, va.ownBlock = some k → ve.ownBlock ≠ some k) :
    FF (w.alloc (.cells #[.int .i64 nv, va, ve] 73)) B w.heap.size va ve nv L E :=
  ⟨⟨by simp [go_sem], by simp [go_sem], fun j => by simp [go_sem], h1.alloc _, h2.alloc _, own_far h1 (Nat.le_refl _), own_far h2 (Nat.le_refl _), d1⟩, by simp [go_sem]⟩
set_option linter.unusedSimpArgs false in
set_option maxRecDepth 100000 in
set_option maxHeartbeats 8000000 in
/-- cnf.Formula.Clone -/
theorem fClone_any (w : World) (B b : Nat) (va ve : Value) (nv : Int) (L E : List Int) (h : FF w B b va ve nv L E) (hB : B ≤ w.heap.size) (hl : L.length ≤ 1000000000) (hl' : E.length ≤ 1000000000) :
    Calls Tryz.prog 68 #[.pointer (some ⟨b, 0, none⟩)] w (FcPost w B nv L E) := by
  have c0 := h.c
  have HF := hide h
  have HBB := hide hB
  have ce := fun w' (k : Below w.heap.size w w') => hide (arClone_any w' B b 1 va ve L E (h.below k).ar (Nat.le_trans hB k.size) hl hl')
  clear h hB
  go_enter Tryz.func68, Tryz.ntmps68
  go_upto_region 1 with fail
  go_region_law (first
    | (refine step_call rfl 131 #[.pointer (some ⟨b, 1, none⟩)] (by simp [go_sem]) (ce _ ((Below.refl _ _).drew)).out ?_
       rintro e w5 ⟨g1, g2, rfl, r1, r2, hne, hg1, hg2, hex⟩
       have c5 := (Ex.of_drew hex).cell (fun z => z) c0
       have HP5 := hide (And.intro r1 (And.intro r2 (And.intro hne (And.intro hg1 (And.intro hg2 (Ex.of_drew hex))))))
       clear r1 r2 hne hg1 hg2 hex
       refine ⟨_, rfl, ?_⟩))
  all_goals
    have HFF := hide (ff_made (nv := nv) HP5.out.1 HP5.out.2.1 (fun k z y => HP5.out.2.2.1 (by have e1 : g1 = k := Option.some.inj z; have e2 : g2 = k := Option.some.inj y; omega)))
    have HPO : Hid (FcPost w B nv L E (.returned (.pointer (some ⟨w5.heap.size, 0, none⟩))) (w5.alloc (.cells #[.int .i64 nv, .slice (some ⟨g1, 0, none⟩) L.length L.length, .slice (some ⟨g2, 0, none⟩) E.length E.length] 73))) := ⟨_, _, _, rfl, HFF.out, HP5.out.2.2.2.2.2.size, fun j hj => by have e1 : g1 = j := Option.some.inj hj; have := HP5.out.2.2.2.1; show w.heap.size ≤ j; rw [← e1]; exact this, fun j hj => by have e1 : g2 = j := Option.some.inj hj; have := HP5.out.2.2.2.2.1; show w.heap.size ≤ j; rw [← e1]; exact this, HP5.out.2.2.2.2.2.alloc _⟩
    clear HFF HP5 ce
    go_wp2
    go_ret
    exact HPO.out
/-- the copy of a proof in the making -/
def PK (w : World) (B : Nat) (L E : List Int) (q : Nat) (W : World) (t g1 g2 g3 : Nat) : Prop :=
  W.heap[t]? = some (.cells #[.slice (some ⟨g1, 0, none⟩) L.length L.length, .slice (some ⟨g2, 0, none⟩) E.length E.length, .slice (some ⟨g3, 0, none⟩) q q] 79) ∧ W.ownsRow B 64 1 (.slice (some ⟨g1, 0, none⟩) L.length L.length) L.length (L.map (Value.int .i32)) ∧ W.ownsRow B 3 1 (.slice (some ⟨g2, 0, none⟩) E.length E.length) E.length (E.map (Value.int .i64)) ∧ W.heap[g3]? = some (.cells (madeCells #[.bool false] q) 4) ∧ (t ≠ g1 ∧ t ≠ g2 ∧ t ≠ g3 ∧ g1 ≠ g2 ∧ g1 ≠ g3 ∧ g2 ≠ g3 ∧ w.heap.size ≤ t ∧ w.heap.size ≤ g1 ∧ w.heap.size ≤ g2 ∧ w.heap.size ≤ g3) ∧ Ex (fun _ => False) w W
theorem pk_a {w w5 : World} {B g1 g2 q : Nat} {L E : List Int} (r1 : w5.ownsRow B 64 1 (.slice (some ⟨g1, 0, none⟩) L.length L.length) L.length (L.map (Value.int .i32))) (r2 : w5.ownsRow B 3 1 (.slice (some ⟨g2, 0, none⟩) E.length E.length) E.length (E.map (Value.int .i64))) (hne : g1 ≠ g2) (h1 : w.heap.size ≤ g1) (h2 : w.heap.size ≤ g2) (ex : Ex (fun _ => False) w w5) (o : Obj) (ho : o = .cells #[.slice (some ⟨g1, 0, none⟩) L.length L.length, .slice (some ⟨g2, 0, none⟩) E.length E.length, .slice (some ⟨w5.heap.size, 0, none⟩) q q] 79) :
    PK w B L E q ((w5.alloc (.cells (madeCells #[.bool false] q) 4)).alloc o) (w5.heap.size + 1) g1 g2 w5.heap.size := by
  have l1 := (r1.lt g1 rfl).2
  have l2 := (r2.lt g2 rfl).2
  have hs := ex.size
  have n0 := heap_alloc_new w5 (.cells (madeCells #[.bool false] q) 4)
  have n1 := heap_alloc_new (w5.alloc (.cells (madeCells #[.bool false] q) 4)) o
  have s1 : (w5.alloc (.cells (madeCells #[.bool false] q) 4)).heap.size = w5.heap.size + 1 := by simp
  rw [s1] at n1
  subst ho
  exact ⟨n1, (r1.alloc _).alloc _, (r2.alloc _).alloc _, ((be1 _ _).block _ (by omega)).trans n0, by omega, (ex.alloc _).alloc _⟩
theorem pk_b {w w5 : World} {B g1 g2 q : Nat} {L E : List Int} (r1 : w5.ownsRow B 64 1 (.slice (some ⟨g1, 0, none⟩) L.length L.length) L.length (L.map (Value.int .i32))) (r2 : w5.ownsRow B 3 1 (.slice (some ⟨g2, 0, none⟩) E.length E.length) E.length (E.map (Value.int .i64))) (hne : g1 ≠ g2) (h1 : (w.alloc (.cells (madeCells #[.bool false] q) 4)).heap.size ≤ g1) (h2 : (w.alloc (.cells (madeCells #[.bool false] q) 4)).heap.size ≤ g2) (ex : Ex (fun _ => False) (w.alloc (.cells (madeCells #[.bool false] q) 4)) w5) (o : Obj) (ho : o = .cells #[.slice (some ⟨g1, 0, none⟩) L.length L.length, .slice (some ⟨g2, 0, none⟩) E.length E.length, .slice (some ⟨w.heap.size, 0, none⟩) q q] 79) :
    PK w B L E q (w5.alloc o) w5.heap.size g1 g2 w.heap.size := by
  have l1 := (r1.lt g1 rfl).2
  have l2 := (r2.lt g2 rfl).2
  have hs := ex.size
  have n0 := heap_alloc_new w (.cells (madeCells #[.bool false] q) 4)
  have n1 := heap_alloc_new w5 o
  have s1 : (w.alloc (.cells (madeCells #[.bool false] q) 4)).heap.size = w.heap.size + 1 := by simp
  rw [s1] at h1 h2 hs
  subst ho
  exact ⟨n1, r1.alloc _, r2.alloc _, ((be1 _ _).block _ (by omega)).trans ((ex.block _ (by omega) (fun z => z)).trans n0), by omega, (((Ex.refl _ w).alloc _).trans ex).alloc _⟩
def PcPost (w : World) (B : Nat) (L E : List Int) (D : List Bool) (e : Ending) (w' : World) : Prop :=
  ∃ b va ve vd, e = .returned (.pointer (some ⟨b, 0, none⟩)) ∧ PF w' B b va ve vd L E D ∧ w.heap.size ≤ b ∧ (∀ j, va.ownBlock = some j → w.heap.size ≤ j) ∧ (∀ j, ve.ownBlock = some j → w.heap.size ≤ j) ∧ (∀ j, vd.ownBlock = some j → w.heap.size ≤ j) ∧ Ex (fun _ => False) w w'
set_option linter.unusedSimpArgs false in
set_option maxRecDepth 100000 in
set_option maxHeartbeats 8000000 in
/-- cnf.Proof.Clone -/
theorem pClone_any (w : World) (B b : Nat) (va ve vd : Value) (L E : List Int) (D : List Bool) (h : PF w B b va ve vd L E D) (hB : B ≤ w.heap.size) (hl : L.length ≤ 1000000000) (hl' : E.length ≤ 1000000000) (hD : D.length ≤ 1000000000) :
    Calls Tryz.prog 70 #[.pointer (some ⟨b, 0, none⟩)] w (PcPost w B L E D) := by
  obtain ⟨ad, cd, rfl⟩ := own_form h.r2
  have c2 := h.c2
  have HF := hide h
  have HBB := hide hB
  have ce := fun w' (k : Below w.heap.size w w') => hide (arClone_any w' B b 0 va ve L E (h.below k).ar (Nat.le_trans hB k.size) hl hl')
  have hmk := run_make_row' (P := Tryz.prog) 77 4 (.bool false) 1 Tryz.underlying77 Tryz.info4 rfl .i64 .i64 D.length (by omega) (by omega)
  clear h hB
  obtain ⟨q, hq⟩ : ∃ q, D.length = q := ⟨_, rfl⟩
  rw [hq] at c2 hmk hD
  have HQ := hide hq
  clear hq
  go_enter Tryz.func70, Tryz.ntmps70
  go_upto_region 1 with fail
  go_cut [3] (fun s3 wx => ∃ t g1 g2 g3, s3 = .pointer (some ⟨t, 0, none⟩) ∧ Hid (PK w B L E q wx t g1 g2 g3))
  case first =>
    have c2a : ∀ o1, (w.alloc o1).cell? ⟨b, 2, none⟩ = some (.slice ad q cd) := fun o1 => cellKeep (be1 w o1) c2
    go_region_law (first
      | (refine step_call rfl 131 #[.pointer (some ⟨b, 0, none⟩)] (by simp [go_sem]) (ce _ (by first | exact (Below.refl _ _).drew | exact (be1 w _).drew)).out ?_
         rintro e w5 ⟨g1, g2, rfl, r1, r2, hne, hg1, hg2, hex⟩
         have HP5 := hide (And.intro r1 (And.intro r2 (And.intro hne (And.intro hg1 (And.intro hg2 (Ex.of_drew hex))))))
         have c5 : w5.cell? ⟨b, 2, none⟩ = some (.slice ad q cd) := by first | exact (Ex.of_drew hex).cell (fun z => z) c2 | exact (Ex.of_drew hex).cell (fun z => z) (c2a _)
         have c5a : ∀ o1, (w5.alloc o1).cell? ⟨b, 2, none⟩ = some (.slice ad q cd) := fun o1 => cellKeep (be1 w5 o1) c5
         clear r1 r2 hne hg1 hg2 hex
         refine ⟨_, rfl, ?_⟩))
    all_goals
      clear ce hmk c2 c2a c5 c5a HF
      go_wp2
      go_meet
      case rel => first
        | exact ⟨_, _, _, _, rfl, pk_a (w := w) HP5.out.1 HP5.out.2.1 HP5.out.2.2.1 HP5.out.2.2.2.1 HP5.out.2.2.2.2.1 HP5.out.2.2.2.2.2 _ rfl⟩
        | exact ⟨_, _, _, _, rfl, pk_b (w := w) HP5.out.1 HP5.out.2.1 HP5.out.2.2.1 HP5.out.2.2.2.1 HP5.out.2.2.2.2.1 HP5.out.2.2.2.2.2 _ rfl⟩
  clear ce hmk c2
  obtain ⟨t, g1, g2, g3, rfl, HZ⟩ := hcut
  have E0 : Ex (fun _ => False) w wc.drew := HZ.out.2.2.2.2.2.drew
  have hge := HZ.out.2.2.2.2.1
  have d3 := own_heap (w := wc.drew) (B := B) HZ.out.2.2.2.1 (by have := HBB.out; omega) (by unfold maxLen; omega)
  have A0 := HF.out.below (E0.below (Nat.le_refl _) (fun _ _ z => z))
  have r2 := A0.r2
  rw [HQ.out] at r2
  have hone : ∀ u ∈ D.map Value.bool, u.oneCell' = true := fun u hu => by obtain ⟨x, _, rfl⟩ := List.mem_map.1 hu; rfl
  have hcp := fun ty => copyG wc.drew 77 4 Tryz.underlying77 Tryz.siz4 B B q g3 ad cd _ _ r2 hone d3 ty
  have x2 := HZ.out.2.2.2.2.2.cell (fun z => z) HF.out.c2
  rw [HQ.out] at x2
  have t2 := cell_heap HZ.out.1 (i := 2) rfl
  have E1 : Ex (fun j => j = g3) wc (wc.drew.setCells g3 0 (D.map Value.bool)) := Ex.sets (S := fun j => j = g3) (p := g3) rfl _ _ _ (Ex.refl _ _).drew
  have E2 : Ex (fun _ => False) w (wc.drew.setCells g3 0 (D.map Value.bool)) := Ex.setsNew (by omega) _ _ _ E0
  have HP : Hid (PcPost w B L E D (.returned (.pointer (some ⟨t, 0, none⟩))) (wc.drew.setCells g3 0 (D.map Value.bool))) := by
    have nt : ¬ (fun j => j = g3) t := fun (z : t = g3) => by omega
    have hcell : ∀ j v, wc.cell? ⟨t, j, none⟩ = some v → (wc.drew.setCells g3 0 (D.map Value.bool)).cell? ⟨t, j, none⟩ = some v := fun j v hv => E1.cell nt hv
    refine ⟨t, .slice (some ⟨g1, 0, none⟩) L.length L.length, .slice (some ⟨g2, 0, none⟩) E.length E.length, .slice (some ⟨g3, 0, none⟩) q q, rfl, ⟨⟨hcell _ _ (cell_heap HZ.out.1 (i := 0) rfl), hcell _ _ (cell_heap HZ.out.1 (i := 1) rfl), fun j => (E1.frozen nt (World.block_lt_of_cell? _ _ t2)).trans (frozen_heap HZ.out.1 j), own_kept HZ.out.2.1 E1 (fun k hk (z : k = g3) => by have : g1 = k := Option.some.inj hk; omega), own_kept HZ.out.2.2.1 E1 (fun k hk (z : k = g3) => by have : g2 = k := Option.some.inj hk; omega), fun z => by have : g1 = t := Option.some.inj z; omega, fun z => by have : g2 = t := Option.some.inj z; omega, fun k z y => by have : g1 = k := Option.some.inj z; have : g2 = k := Option.some.inj y; omega⟩, ?_, ?_, fun z => by have : g3 = t := Option.some.inj z; omega, fun k z y => by have : g1 = k := Option.some.inj z; have : g3 = k := Option.some.inj y; omega, fun k z y => by have : g2 = k := Option.some.inj z; have : g3 = k := Option.some.inj y; omega⟩, by omega, fun j hj => by have : g1 = j := Option.some.inj hj; omega, fun j hj => by have : g2 = j := Option.some.inj hj; omega, fun j hj => by have : g3 = j := Option.some.inj hj; omega, E2⟩
    · exact hcell _ _ t2
    · rw [HQ.out]; exact own_copied d3 (by rw [List.length_map, HQ.out])
  clear E0 E1 E2 hone r2 A0 d3 HZ hge
  go_upto_region 2 with fail
  go_region
  go_wp2
  go_ret
  exact HP.out
end Go.Proofs.Qxb6500773aGreat
