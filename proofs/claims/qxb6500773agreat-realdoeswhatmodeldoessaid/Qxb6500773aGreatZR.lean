import Derived.Test.Qxb6500773aGreatZQ
import Derived.Test.Qxb6500773aGreatZ9
namespace Go.Proofs.Qxb6500773aGreat
set_option maxRecDepth 100000
open Go.RowKit

theorem Tryz.siz3 : (Tryz.prog.info? 3).map (·.size) = some 1 := by kernel_rfl
theorem Tryz.siz4 : (Tryz.prog.info? 4).map (·.size) = some 1 := by kernel_rfl
theorem heap4 (w : World) (a b c d : Obj) : ((((w.alloc a).alloc b).alloc c).alloc d).drew.heap[w.heap.size]? = some a ∧ ((((w.alloc a).alloc b).alloc c).alloc d).drew.heap[w.heap.size + 1]? = some b ∧ ((((w.alloc a).alloc b).alloc c).alloc d).drew.heap[w.heap.size + 1 + 1]? = some c ∧ ((((w.alloc a).alloc b).alloc c).alloc d).drew.heap[w.heap.size + 1 + 1 + 1]? = some d ∧ Ex (fun _ => False) w ((((w.alloc a).alloc b).alloc c).alloc d).drew := by
  have s1 : (w.alloc a).heap.size = w.heap.size + 1 := by simp
  have s2 : ((w.alloc a).alloc b).heap.size = w.heap.size + 1 + 1 := by simp
  have s3 : (((w.alloc a).alloc b).alloc c).heap.size = w.heap.size + 1 + 1 + 1 := by simp
  have n0 := heap_alloc_new w a
  have n1 := heap_alloc_new (w.alloc a) b
  have n2 := heap_alloc_new ((w.alloc a).alloc b) c
  have n3 := heap_alloc_new (((w.alloc a).alloc b).alloc c) d
  rw [s1] at n1
  rw [s2] at n2
  rw [s3] at n3
  have e1 := be1 (w.alloc a) b
  have e2 := be1 ((w.alloc a).alloc b) c
  have e3 := be1 (((w.alloc a).alloc b).alloc c) d
  refine ⟨?_, ?_, ?_, n3, ((((Ex.refl _ w).alloc _).alloc _).alloc _).alloc _ |>.drew⟩
  · exact (e3.block _ (by omega)).trans ((e2.block _ (by omega)).trans ((e1.block _ (by omega)).trans n0))
  · exact (e3.block _ (by omega)).trans ((e2.block _ (by omega)).trans n1)
  · exact (e3.block _ (by omega)).trans n2
theorem cell_heap {w : World} {b i : Nat} {cs : Array Value} {t : TypeId} (h : w.heap[b]? = some (.cells cs t)) {v : Value} (hv : cs[i]? = some v) : w.cell? ⟨b, i, none⟩ = some v := by
  rw [cell_of_row w b i cs t (0, 0) h]
  exact hv
theorem frozen_heap {w : World} {b : Nat} {cs : Array Value} {t : TypeId} (h : w.heap[b]? = some (.cells cs t)) (j : Nat) : w.frozen? ⟨b, j, none⟩ = false := by
  unfold World.frozen?
  simp [h]
theorem own_heap {w : World} {B t n g : Nat} {z : Value} (h : w.heap[g]? = some (.cells (madeCells #[z] n) t)) (hB : B ≤ g) (hn : n ≤ maxLen) : w.ownsRow B t 1 (.slice (some ⟨g, 0, none⟩) n n) n (List.replicate n z) := by
  refine ⟨by simp, .inr ⟨g, n, madeCells #[z] n, rfl, hB, h, Nat.le_refl _, hn, by rw [size_madeCells, Nat.mul_one], ?_⟩⟩
  rw [made_list, Nat.mul_one, List.take_of_length_le (by simp)]
/-- copying a whole row into a row of the same length -/
theorem copyG (W : World) (ts e : TypeId) (hu : Tryz.prog.underlying ts = some (.slice e)) (hs : (Tryz.prog.info? e).map (·.size) = some 1) (B B2 n g2 : Nat) (a : Option Addr) (c : Nat) (X xs : List Value) (hr : W.ownsRow B e 1 (.slice a n c) n X) (h1 : ∀ u ∈ X, u.oneCell' = true) (hd : W.ownsRow B2 e 1 (.slice (some ⟨g2, 0, none⟩) n n) n xs) (ty : TypeId) :
    (Builtin.copy_ #[ts, ts] ty #[.slice (some ⟨g2, 0, none⟩) n n, .slice a n c]).run Tryz.prog W = .ok (goInt X.length) (W.setCells g2 0 X) := by
  have hX : X.length = n := by have := hr.1; omega
  by_cases h0 : n = 0
  · subst h0
    have hV : X = [] := List.length_eq_zero_iff.1 hX
    subst hV
    exact run_copy_none (P := Tryz.prog) W ts ts ty e (some ⟨g2, 0, none⟩) a 0 0 0 c hu hs (by simp)
  · obtain ⟨x, hx⟩ : ∃ x, X[0]? = some x := ⟨_, List.getElem?_eq_getElem (by omega)⟩
    obtain ⟨g, c', e1, _, _⟩ := row_cell hr hx
    injection e1 with e1
    subst e1
    have hxl : xs.length = n := by have := hd.1; omega
    refine run_copy_cells (P := Tryz.prog) W ts ts ty e g2 0 n n ⟨g, 0, none⟩ n c X hu hs (by rw [hX]; exact (Nat.min_eq_left (Nat.le_refl _)).symm) (fun j v hj => ?_) (fun j hj => ?_) (fun j hj => ?_) h1
    · obtain ⟨g3, c3, e4, hc4, _⟩ := row_cell hr hj
      injection e4 with e4
      injection e4 with e4
      injection e4 with e4
      rw [Addr.add_mid, Nat.zero_add, e4]
      exact hc4
    · obtain ⟨u, hu⟩ : ∃ u, xs[j]? = some u := ⟨_, List.getElem?_eq_getElem (by omega)⟩
      obtain ⟨g3, c3, e4, hc4, _⟩ := row_cell hd hu
      injection e4 with e4
      injection e4 with e4
      injection e4 with e4
      rw [Nat.zero_add, e4, hc4]; rfl
    · rw [Nat.zero_add]; exact hd.frozenAt j
theorem own_copied {W : World} {B e g n : Nat} {xs X : List Value} (h : W.ownsRow B e 1 (.slice (some ⟨g, 0, none⟩) n n) n xs) (hX : X.length = n) : (W.setCells g 0 X).ownsRow B e 1 (.slice (some ⟨g, 0, none⟩) n n) n X := by
  have hxs : xs.length = n := by have := h.1; omega
  have r1 := own_sets X _ _ 0 h
  rw [setL_zero (by omega), List.drop_of_length_le (by omega), List.append_nil] at r1
  exact r1
/-- the copy in the making -/
structure CZ (w W : World) (r t g1 g2 n m : Nat) : Prop where
  hr : W.heap[r]? = some (.cells #[.slice none 0 0, .slice none 0 0] 71)
  ht : W.heap[t]? = some (.cells #[.slice (some ⟨g1, 0, none⟩) n n, .slice (some ⟨g2, 0, none⟩) m m] 71)
  h1 : W.heap[g1]? = some (.cells (madeCells #[.int .i32 0] n) 64)
  h2 : W.heap[g2]? = some (.cells (madeCells #[.int .i64 0] m) 3)
  ex : Ex (fun _ => False) w W
  ne : r ≠ t ∧ r ≠ g1 ∧ r ≠ g2 ∧ t ≠ g1 ∧ t ≠ g2 ∧ g1 ≠ g2
  ge : w.heap.size ≤ r ∧ w.heap.size ≤ t ∧ w.heap.size ≤ g1 ∧ w.heap.size ≤ g2
def AcPost (w : World) (B : Nat) (L E : List Int) (e : Ending) (w' : World) : Prop :=
  ∃ g1 g2, e = .returned (.agg #[.slice (some ⟨g1, 0, none⟩) L.length L.length, .slice (some ⟨g2, 0, none⟩) E.length E.length]) ∧ w'.ownsRow B 64 1 (.slice (some ⟨g1, 0, none⟩) L.length L.length) L.length (L.map (Value.int .i32)) ∧ w'.ownsRow B 3 1 (.slice (some ⟨g2, 0, none⟩) E.length E.length) E.length (E.map (Value.int .i64)) ∧ g1 ≠ g2 ∧ w.heap.size ≤ g1 ∧ w.heap.size ≤ g2 ∧ Ex (fun _ => False) w w'
set_option linter.unusedSimpArgs false in
set_option maxRecDepth 100000 in
set_option maxHeartbeats 8000000 in
/-- cnf.arena.clone -/
theorem arClone_any (w : World) (B b o : Nat) (va ve : Value) (L E : List Int) (h : AR w B b o va ve L E) (hB : B ≤ w.heap.size) (hl : L.length ≤ 1000000000) (hl' : E.length ≤ 1000000000) :
    Calls Tryz.prog 131 #[.pointer (some ⟨b, o, none⟩)] w (AcPost w B L E) := by
  have c0 := h.c0
  have c1 := h.c1
  obtain ⟨a, c, rfl⟩ := own_form h.r0
  obtain ⟨a', c', rfl⟩ := own_form h.r1
  have hmk := run_make_row' (P := Tryz.prog) 53 64 (.int .i32 0) 4 Tryz.underlying53 Tryz.inf64 rfl .i64 .i64 L.length (by omega) (by omega)
  have hmk' := run_make_row' (P := Tryz.prog) 30 3 (.int .i64 0) 8 Tryz.underlying30 Tryz.info3 rfl .i64 .i64 E.length (by omega) (by omega)
  have HA := hide h
  have HBB := hide hB
  clear h hB
  obtain ⟨n, hn⟩ : ∃ n, L.length = n := ⟨_, rfl⟩
  obtain ⟨m, hm⟩ : ∃ m, E.length = m := ⟨_, rfl⟩
  rw [hn] at c0 hmk hl
  rw [hm] at c1 hmk' hl'
  have HN := hide hn
  have HM := hide hm
  clear hn hm
  go_enter Tryz.func131, Tryz.ntmps131
  go_upto_region 1 with fail
  go_cut [3] (fun s3 wx => ∃ t g1 g2, s3 = .pointer (some ⟨t, 0, none⟩) ∧ Hid (CZ w wx w.heap.size t g1 g2 n m))
  case first =>
    have k1 : ∀ o1, (w.alloc o1).cell? ⟨b, o, none⟩ = some (.slice a n c) := fun o1 => cellKeep (be1 w o1) c0
    have k2 : ∀ o1 o2, ((w.alloc o1).alloc o2).cell? ⟨b, o, none⟩ = some (.slice a n c) := fun o1 o2 => cellKeep (be1 _ o2) (k1 o1)
    have k3 : ∀ o1 o2 o3, (((w.alloc o1).alloc o2).alloc o3).cell? ⟨b, o, none⟩ = some (.slice a n c) := fun o1 o2 o3 => cellKeep (be1 _ o3) (k2 o1 o2)
    have q1 : ∀ o1, (w.alloc o1).cell? ⟨b, o + 1, none⟩ = some (.slice a' m c') := fun o1 => cellKeep (be1 w o1) c1
    have q2 : ∀ o1 o2, ((w.alloc o1).alloc o2).cell? ⟨b, o + 1, none⟩ = some (.slice a' m c') := fun o1 o2 => cellKeep (be1 _ o2) (q1 o1)
    have q3 : ∀ o1 o2 o3, (((w.alloc o1).alloc o2).alloc o3).cell? ⟨b, o + 1, none⟩ = some (.slice a' m c') := fun o1 o2 o3 => cellKeep (be1 _ o3) (q2 o1 o2)
    go_region
    all_goals
      clear k1 k2 k3 q1 q2 q3 hmk hmk' c0 c1
      go_wp2
      go_meet
      case rel => first
        | exact ⟨_, _, _, rfl, ⟨(heap4 _ _ _ _ _).1, (heap4 _ _ _ _ _).2.2.2.1, (heap4 _ _ _ _ _).2.1, (heap4 _ _ _ _ _).2.2.1, (heap4 _ _ _ _ _).2.2.2.2, by omega, by omega⟩⟩
        | exact ⟨_, _, _, rfl, ⟨(heap4 _ _ _ _ _).1, (heap4 _ _ _ _ _).2.2.1, (heap4 _ _ _ _ _).2.1, (heap4 _ _ _ _ _).2.2.2.1, (heap4 _ _ _ _ _).2.2.2.2, by omega, by omega⟩⟩
        | exact ⟨_, _, _, rfl, ⟨(heap4 _ _ _ _ _).1, (heap4 _ _ _ _ _).2.2.2.1, (heap4 _ _ _ _ _).2.2.1, (heap4 _ _ _ _ _).2.1, (heap4 _ _ _ _ _).2.2.2.2, by omega, by omega⟩⟩
        | exact ⟨_, _, _, rfl, ⟨(heap4 _ _ _ _ _).1, (heap4 _ _ _ _ _).2.2.1, (heap4 _ _ _ _ _).2.2.2.1, (heap4 _ _ _ _ _).2.1, (heap4 _ _ _ _ _).2.2.2.2, by omega, by omega⟩⟩
        | exact ⟨_, _, _, rfl, ⟨(heap4 _ _ _ _ _).1, (heap4 _ _ _ _ _).2.1, (heap4 _ _ _ _ _).2.2.1, (heap4 _ _ _ _ _).2.2.2.1, (heap4 _ _ _ _ _).2.2.2.2, by omega, by omega⟩⟩
        | exact ⟨_, _, _, rfl, ⟨(heap4 _ _ _ _ _).1, (heap4 _ _ _ _ _).2.1, (heap4 _ _ _ _ _).2.2.2.1, (heap4 _ _ _ _ _).2.2.1, (heap4 _ _ _ _ _).2.2.2.2, by omega, by omega⟩⟩
  clear hmk hmk' c0 c1
  obtain ⟨t, g1, g2, rfl, HZ⟩ := hcut
  obtain ⟨r, hr⟩ : ∃ r, w.heap.size = r := ⟨_, rfl⟩
  rw [hr] at HZ ⊢
  have HSR := hide hr
  clear hr
  -- the first copy
  have E0 : Ex (fun _ => False) w wc.drew := HZ.out.ex.drew
  have A0 := HA.out.keep E0 (fun z => z) (fun _ _ z => z) (fun _ _ z => z)
  have d1 := own_heap (w := wc.drew) (B := B) HZ.out.h1 (by have := HBB.out; have := HZ.out.ge; omega) (by unfold maxLen; omega)
  have d2 := own_heap (w := wc.drew) (B := B) HZ.out.h2 (by have := HBB.out; have := HZ.out.ge; omega) (by unfold maxLen; omega)
  have r0 := A0.r0
  rw [HN.out] at r0
  have hone : ∀ u ∈ L.map (Value.int .i32), u.oneCell' = true := fun u hu => by obtain ⟨x, _, rfl⟩ := List.mem_map.1 hu; rfl
  have hone' : ∀ u ∈ E.map (Value.int .i64), u.oneCell' = true := fun u hu => by obtain ⟨x, _, rfl⟩ := List.mem_map.1 hu; rfl
  have hcp := fun ty => copyG wc.drew 53 64 Tryz.underlying53 Tryz.siz64 B B n g1 a c _ _ r0 hone d1 ty
  have x0 := HZ.out.ex.cell (fun z => z) HA.out.c0
  rw [HN.out] at x0
  have t0 := cell_heap HZ.out.ht (i := 0) rfl
  have HD1 := hide (own_copied d1 (X := L.map (Value.int .i32)) (by rw [List.length_map, HN.out]))
  have E1 : Ex (fun j => j = g1) wc.drew (wc.drew.setCells g1 0 (L.map (Value.int .i32))) := Ex.sets (S := fun j => j = g1) (p := g1) rfl _ _ _ (Ex.refl _ _)
  have HE1 : Hid (Ex (fun _ => False) w (wc.drew.setCells g1 0 (L.map (Value.int .i32)))) := Ex.setsNew (by have := HZ.out.ge; omega) _ _ _ E0
  have HD2 := hide (own_kept d2 E1 (fun k hk (z : k = g1) => by have : g2 = k := Option.some.inj hk; have := HZ.out.ne; omega))
  have HT0 := hide (E1.cell (q := t) (fun z => by have := HZ.out.ne; omega) (show wc.drew.cell? ⟨t, 0, none⟩ = _ from t0))
  have HT1 := hide (E1.cell (q := t) (fun z => by have := HZ.out.ne; omega) (show wc.drew.cell? ⟨t, 1, none⟩ = _ from cell_heap HZ.out.ht (i := 1) rfl))
  have HR0 := hide (E1.cell (q := r) (fun z => by have := HZ.out.ne; omega) (show wc.drew.cell? ⟨r, 0, none⟩ = _ from cell_heap HZ.out.hr (i := 0) rfl))
  have HR1 := hide (E1.cell (q := r) (fun z => by have := HZ.out.ne; omega) (show wc.drew.cell? ⟨r, 1, none⟩ = _ from cell_heap HZ.out.hr (i := 1) rfl))
  have HRF : Hid (∀ j, (wc.drew.setCells g1 0 (L.map (Value.int .i32))).frozen? ⟨r, j, none⟩ = false) := fun j => (E1.frozen (q := r) (fun (z : r = g1) => by have := HZ.out.ne; omega) (World.block_lt_of_cell? _ _ (cell_heap HZ.out.hr (i := 0) rfl))).trans (frozen_heap HZ.out.hr j)
  have HNE := hide HZ.out.ne
  have HGE := hide HZ.out.ge
  clear E0 A0 d1 d2 r0 hone E1 HZ
  go_upto_region 2 with fail
  go_region
  clear hcp x0 t0
  generalize wc.drew.setCells g1 0 (L.map (Value.int .i32)) = W1 at *
  -- the second copy
  have A1 := HA.out.keep HE1.out.drew (fun z => z) (fun _ _ z => z) (fun _ _ z => z)
  have d2 : W1.drew.ownsRow B 3 1 (.slice (some ⟨g2, 0, none⟩) m m) m _ := own_kept HD2.out ((Ex.refl (fun _ => False) W1).drew) (fun _ _ z => z)
  have r1 := A1.r1
  rw [HM.out] at r1
  have hcp := fun ty => copyG W1.drew 30 3 Tryz.underlying30 Tryz.siz3 B B m g2 a' c' _ _ r1 hone' d2 ty
  have x1 := HE1.out.cell (fun z => z) HA.out.c1
  rw [HM.out] at x1
  have t1 := HT1.out
  have HD3 := hide (own_copied d2 (X := E.map (Value.int .i64)) (by rw [List.length_map, HM.out]))
  have E1 : Ex (fun j => j = g2) W1 (W1.drew.setCells g2 0 (E.map (Value.int .i64))) := Ex.sets (S := fun j => j = g2) (p := g2) rfl _ _ _ (Ex.refl _ _).drew
  have HE2 : Hid (Ex (fun _ => False) w (W1.drew.setCells g2 0 (E.map (Value.int .i64)))) := Ex.setsNew (by have := HGE.out; omega) _ _ _ HE1.out.drew
  have HD4 := hide (own_kept HD1.out E1 (fun k hk (z : k = g2) => by have : g1 = k := Option.some.inj hk; have := HNE.out; omega))
  have HU0 := hide (E1.cell (q := t) (fun z => by have := HNE.out; omega) HT0.out)
  have HU1 := hide (E1.cell (q := t) (fun z => by have := HNE.out; omega) HT1.out)
  have HS0 := hide (E1.cell (q := r) (fun z => by have := HNE.out; omega) HR0.out)
  have HS1 := hide (E1.cell (q := r) (fun z => by have := HNE.out; omega) HR1.out)
  have HSF : Hid (∀ j, (W1.drew.setCells g2 0 (E.map (Value.int .i64))).frozen? ⟨r, j, none⟩ = false) := fun j => (E1.frozen (q := r) (fun (z : r = g2) => by have := HNE.out; omega) (World.block_lt_of_cell? _ _ HR0.out)).trans (HRF.out j)
  clear A1 d2 r1 hone' E1 HD1 HD2 HE1 HT0 HT1 HR0 HR1 HRF
  go_upto_region 3 with fail
  go_region
  clear hcp x1 t1
  generalize W1.drew.setCells g2 0 (E.map (Value.int .i64)) = W2 at *
  have u0 := HU0.out
  have u1 := HU1.out
  have s0 := HS0.out
  have s1 := HS1.out
  have sf := HSF.out
  have hrt : r ≠ t := HNE.out.1
  have E3 : Ex (fun j => j = r) W2 ((W2.setCell ⟨r, 0, none⟩ (.slice (some ⟨g1, 0, none⟩) n n)).setCell ⟨r, 1, none⟩ (.slice (some ⟨g2, 0, none⟩) m m)) := ((Ex.refl (fun j => j = r) W2).set (p := r) rfl _).set (p := r) rfl _
  have E4 : Ex (fun _ => False) w ((W2.setCell ⟨r, 0, none⟩ (.slice (some ⟨g1, 0, none⟩) n n)).setCell ⟨r, 1, none⟩ (.slice (some ⟨g2, 0, none⟩) m m)) := (HE2.out.setNew (by have := HSR.out; omega) _).setNew (by have := HSR.out; omega) _
  have HP : Hid (AcPost w B L E (.returned (.agg #[.slice (some ⟨g1, 0, none⟩) n n, .slice (some ⟨g2, 0, none⟩) m m])) ((W2.setCell ⟨r, 0, none⟩ (.slice (some ⟨g1, 0, none⟩) n n)).setCell ⟨r, 1, none⟩ (.slice (some ⟨g2, 0, none⟩) m m))) := by
    refine ⟨g1, g2, by rw [HN.out, HM.out], ?_, ?_, HNE.out.2.2.2.2.2, HGE.out.2.2.1, HGE.out.2.2.2, E4⟩
    · rw [HN.out]
      exact own_kept HD4.out E3 (fun k hk (z : k = r) => by have : g1 = k := Option.some.inj hk; have := HNE.out; omega)
    · rw [HM.out]
      exact own_kept HD3.out E3 (fun k hk (z : k = r) => by have : g2 = k := Option.some.inj hk; have := HNE.out; omega)
  have y1 : ((W2.setCell ⟨r, 0, none⟩ (.slice (some ⟨g1, 0, none⟩) n n)).setCell ⟨r, 1, none⟩ (.slice (some ⟨g2, 0, none⟩) m m)).cell? ⟨r, 1, none⟩ = some (.slice (some ⟨g2, 0, none⟩) m m) := World.cell?_setCell_same _ _ _ (by rw [World.cell?_setCell_other _ _ _ _ (by simp)]; exact s1)
  have y0 : ((W2.setCell ⟨r, 0, none⟩ (.slice (some ⟨g1, 0, none⟩) n n)).setCell ⟨r, 1, none⟩ (.slice (some ⟨g2, 0, none⟩) m m)).cell? ⟨r, 0, none⟩ = some (.slice (some ⟨g1, 0, none⟩) n n) := by rw [World.cell?_setCell_other _ _ _ _ (by simp)]; exact World.cell?_setCell_same _ _ _ s0
  clear E3 E4 HD3 HD4 HE2 HU0 HU1 HS0 HS1 HSF
  go_wp2
  exact bodyPost_ret (v := .agg #[.slice (some ⟨g1, 0, none⟩) n n, .slice (some ⟨g2, 0, none⟩) m m]) (by simp [results, Tryz.results131, go_sem, y0, y1]) rfl HP.out
end Go.Proofs.Qxb6500773aGreat
