import Derived.Test.Qxb6500775aNT
namespace Go.Proofs.Qxb6500775a
open Go.RowKit

theorem wrap_any (w : World) (t : Nat) (ht : t ≤ 4096) : Calls Try.prog 69 #[.int .i64 t] w fun e w' => e = .returned (.int .i64 ((t % 4096 : Nat) : Int)) ∧ w' = w := by
  obtain ⟨m, hm⟩ : ∃ m, t % 4096 = m := ⟨_, rfl⟩
  rw [hm]
  have e1 : (t : Int).tmod 4096 = (m : Int) := by rw [Int.tmod_eq_emod_of_nonneg (by omega)]; omega
  have e2 : (t : Int) % 4096 = (m : Int) := by omega
  clear hm
  go_enter Try.func69, Try.ntmps69
  go_wp2
  go_ret
  exact ⟨rfl, rfl⟩
/-- c: how far (dx, dy) lies clockwise of the direction of step s. -/
def crs (dx dy : Int) (s : Nat) : Int := dx * (dirP s).2 - dy * (dirP s).1
def inSec (dx dy : Int) (s : Nat) : Bool := decide (0 ≤ crs dx dy s ∧ crs dx dy ((s + 1) % 4096) < 0)
theorem sgn_ge0 {z : Int} : 0 ≤ sgn z ↔ 0 ≤ z := by unfold sgn; split <;> (try split) <;> omega
theorem sgn_gt0 {z : Int} : 0 < sgn z ↔ 0 < z := by unfold sgn; split <;> (try split) <;> omega
theorem s6al {w : World} {q1 q2 q3 q4 q5 q6 : Addr} {v1 v2 v3 v4 v5 v6 : Value} (o : Obj) (h : w.cell? q1 = some v1 ∧ w.cell? q2 = some v2 ∧ w.cell? q3 = some v3 ∧ w.cell? q4 = some v4 ∧ w.cell? q5 = some v5 ∧ w.cell? q6 = some v6) : (w.alloc o).cell? q1 = some v1 ∧ (w.alloc o).cell? q2 = some v2 ∧ (w.alloc o).cell? q3 = some v3 ∧ (w.alloc o).cell? q4 = some v4 ∧ (w.alloc o).cell? q5 = some v5 ∧ (w.alloc o).cell? q6 = some v6 :=
  ⟨cellAl _ h.1, cellAl _ h.2.1, cellAl _ h.2.2.1, cellAl _ h.2.2.2.1, cellAl _ h.2.2.2.2.1, cellAl _ h.2.2.2.2.2⟩
theorem s6set {w : World} {q1 q2 q3 q4 q5 q6 : Addr} {v1 v2 v3 v4 v5 v6 : Value} {pd k : Nat} {v : Value} (h : w.cell? q1 = some v1 ∧ w.cell? q2 = some v2 ∧ w.cell? q3 = some v3 ∧ w.cell? q4 = some v4 ∧ w.cell? q5 = some v5 ∧ w.cell? q6 = some v6) (n1 : ¬ pd = q1.block) (n2 : ¬ pd = q2.block) (n3 : ¬ pd = q3.block) (n4 : ¬ pd = q4.block) (n5 : ¬ pd = q5.block) (n6 : ¬ pd = q6.block) :
    (w.setCell ⟨pd, k, none⟩ v).cell? q1 = some v1 ∧ (w.setCell ⟨pd, k, none⟩ v).cell? q2 = some v2 ∧ (w.setCell ⟨pd, k, none⟩ v).cell? q3 = some v3 ∧ (w.setCell ⟨pd, k, none⟩ v).cell? q4 = some v4 ∧ (w.setCell ⟨pd, k, none⟩ v).cell? q5 = some v5 ∧ (w.setCell ⟨pd, k, none⟩ v).cell? q6 = some v6 := by
  have key : ∀ (q : Addr) (x : Value), ¬ pd = q.block → w.cell? q = some x → (w.setCell ⟨pd, k, none⟩ v).cell? q = some x := fun q x hn hq => by
    rw [World.cell?_setCell_other _ _ _ _ (fun e => hn (by rw [← e]))]; exact hq
  exact ⟨key _ _ n1 h.1, key _ _ n2 h.2.1, key _ _ n3 h.2.2.1, key _ _ n4 h.2.2.2.1, key _ _ n5 h.2.2.2.2.1, key _ _ n6 h.2.2.2.2.2⟩
set_option maxRecDepth 100000 in
set_option maxHeartbeats 8000000 in
theorem inSector_any (w : World) (bm s : Nat) (sx sy : Bool) (ax ay : Option Addr) (lx cx ly cy : Nat) (dx dy : Int) (hs : s < 4096) (h : MTabs w bm) (i1 : IsI 2 w sx ax lx cx dx) (i2 : IsI 2 w sy ay ly cy dy) :
    Calls Try.prog 28 #[.pointer (some ⟨bm, 0, none⟩), .int .i64 s, .agg #[.bool sx, .slice ax lx cx], .agg #[.bool sy, .slice ay ly cy]] w fun e w' => e = .returned (.bool (inSec dx dy s)) ∧ Below w.heap.size w w' := by
  obtain ⟨t, ht⟩ : ∃ t, s + 1 = t := ⟨_, rfl⟩
  obtain ⟨m, hm⟩ : ∃ m, t % 4096 = m := ⟨_, rfl⟩
  have hm4 : m < 4096 := by omega
  have hti : (s : Int) + 1 = (t : Int) := by omega
  have hwr := fun w => hide (wrap_any w t (by omega))
  rw [hm] at hwr
  have hb0 : Below w.heap.size w ((w.alloc (.cells #[.bool sx, .slice ax lx cx] 26)).alloc (.cells #[.bool sy, .slice ay ly cy] 26)) := ((Below.refl _ _).alloc (Nat.le_refl _) _).alloc (by simp) _
  have hX := allB_at lawAll s hs
  have hX2 := allB_at lawAll m hm4
  unfold lawB at hX hX2
  simp only [decide_eq_true_eq] at hX hX2
  obtain ⟨-, -, -, -, bx1, bx2, by1, by2⟩ := hX
  obtain ⟨-, -, -, -, nx1, nx2, ny1, ny2⟩ := hX2
  have hM := h.below hb0
  have k4 := hM.y s hs
  have k5 := hM.x s hs
  have k6 := hM.x m hm4
  have k7 := hM.y m hm4
  have HE : Hid (inSec dx dy s = decide (0 ≤ dx * (dirP s).2 - dy * (dirP s).1 ∧ 0 < (dirP m).1 * dy - (dirP m).2 * dx)) := hide (by
    unfold inSec crs
    rw [ht, hm]
    congr 1
    rw [Int.mul_comm (dirP m).1, Int.mul_comm (dirP m).2]
    simp only [eq_iff_iff]
    constructor <;> intro hh <;> exact ⟨hh.1, by have := hh.2; omega⟩)
  have HI1 := hide (i1.below hb0)
  have HI2 := hide (i2.below hb0)
  have HBW := hide hb0
  clear i1 i2 hb0 hM h ht hm
  rw [HE.out]
  clear HE
  generalize (dirP s).1 = Xs at *
  generalize (dirP s).2 = Ys at *
  generalize (dirP m).1 = Xm at *
  generalize (dirP m).2 = Ym at *
  go_enter Try.func28, Try.ntmps28
  go_upto_region 1 with fail
  have k0 : ((w.alloc (.cells #[.bool sx, .slice ax lx cx] 26)).alloc (.cells #[.bool sy, .slice ay ly cy] 26)).cell? ⟨w.heap.size, 0, none⟩ = some (.bool sx) := by simp [go_sem]
  have k1 : ((w.alloc (.cells #[.bool sx, .slice ax lx cx] 26)).alloc (.cells #[.bool sy, .slice ay ly cy] 26)).cell? ⟨w.heap.size, 1, none⟩ = some (.slice ax lx cx) := by simp [go_sem]
  have k2 : ((w.alloc (.cells #[.bool sx, .slice ax lx cx] 26)).alloc (.cells #[.bool sy, .slice ay ly cy] 26)).cell? ⟨w.heap.size + 1, 0, none⟩ = some (.bool sy) := by simp [go_sem]
  have k3 : ((w.alloc (.cells #[.bool sx, .slice ax lx cx] 26)).alloc (.cells #[.bool sy, .slice ay ly cy] 26)).cell? ⟨w.heap.size + 1, 1, none⟩ = some (.slice ay ly cy) := by simp [go_sem]
  generalize (w.alloc (.cells #[.bool sx, .slice ax lx cx] 26)).alloc (.cells #[.bool sy, .slice ay ly cy] 26) = W at *
  obtain ⟨p7, hp7⟩ : ∃ p, w.heap.size + 1 = p := ⟨_, rfl⟩
  rw [hp7] at k2 k3 ⊢
  clear hp7
  obtain ⟨p6, hp6⟩ : ∃ p, w.heap.size = p := ⟨_, rfl⟩
  rw [hp6] at k0 k1 ⊢
  clear hp6
  go_wp2_with fail
  refine (hwr _).out.mono ?_
  rintro e w0 ⟨rfl, rfl⟩
  clear hwr
  have hsi : (s : Int) < 4096 := by omega
  have hmi : (m : Int) < 4096 := by omega
  go_upto_region 2 with fail
  have S := And.intro k0 (And.intro k1 (And.intro k2 (And.intro k3 (And.intro k4 k5))))
  have HB := hide (Below.refl w0.heap.size w0)
  have ne0 := blkNe S.1
  have ne0b := blkNe S.2.2.1
  have ne0c := blkNe S.2.2.2.2.1
  go_cut [10] (fun x wx => ∃ p, x = .pointer (some ⟨p, 0, none⟩) ∧ w0.heap.size ≤ p ∧ VarI 5 wx p ((dx) * (Ys) - (dy) * (Xs)) ∧ Below w0.heap.size w0 wx)
  case first =>
    have IX := HI1
    have IY := HI2
    have tok1 : True := trivial
    have tok2 : True := trivial
    have tok3 : True := trivial
    have tok4 : True := trivial
    have tok5 : True := trivial
    go_region_held3 (fun w' => w'.cell? ⟨p6, 0, none⟩ = some (.bool sx) ∧ w'.cell? ⟨p6, 1, none⟩ = some (.slice ax lx cx) ∧ w'.cell? ⟨p7, 0, none⟩ = some (.bool sy) ∧ w'.cell? ⟨p7, 1, none⟩ = some (.slice ay ly cy) ∧ w'.cell? ⟨bm, 4096 + s, none⟩ = some (.int .i64 Ys) ∧ w'.cell? ⟨bm, s, none⟩ = some (.int .i64 Xs)) (first | (with_reducible exact S) | (with_reducible exact (by simpa only [World.cell?_drew] using S)) | (with_reducible exact s6al _ S) | (with_reducible exact (by simpa only [World.cell?_drew] using s6al _ S)) | (exact s6set S (by assumption) (by assumption) (by assumption) (by assumption) (by assumption) (by assumption)) | (exact s6set (s6set S (by assumption) (by assumption) (by assumption) (by assumption) (by assumption) (by assumption)) (by assumption) (by assumption) (by assumption) (by assumption) (by assumption) (by assumption)))
      (first
        | (go_at_call 15; have _t := tok1; clear tok1; refine (Of_any _ (Ys) (by omega) (by omega)).mono ?_; rintro e w1 ⟨s1, a1, n1, c1, rfl, i1, b1⟩; (try replace b1 := of_drew b1); (try (have bf0 := frozKeep b1 bx0 bf0; have bf1 := frozKeep b1 bx1 bf1; have bx0 := cellKeep b1 bx0; have bx1 := cellKeep b1 bx1)); (try (have bx0 := cellKeep b1 (cellNew0 w0); have bx1 := cellKeep b1 (cellNew1 w0); have bf0 := frozKeep b1 (cellNew0 w0) (frozNew w0 0); have bf1 := frozKeep b1 (cellNew1 w0) (frozNew w0 1); have bp := HB.out.size)); (first | have IX := hide (IX.out.below b1) | have IX := hide ((IX.out.al _).below b1)); (first | have IY := hide (IY.out.below b1) | have IY := hide ((IY.out.al _).below b1)); (first | have S := (And.intro (cellKeep b1 S.1) (And.intro (cellKeep b1 S.2.1) (And.intro (cellKeep b1 S.2.2.1) (And.intro (cellKeep b1 S.2.2.2.1) (And.intro (cellKeep b1 S.2.2.2.2.1) (cellKeep b1 S.2.2.2.2.2)))))) | have S := (And.intro (cellKeep b1 (cellAl _ S.1)) (And.intro (cellKeep b1 (cellAl _ S.2.1)) (And.intro (cellKeep b1 (cellAl _ S.2.2.1)) (And.intro (cellKeep b1 (cellAl _ S.2.2.2.1)) (And.intro (cellKeep b1 (cellAl _ S.2.2.2.2.1)) (cellKeep b1 (cellAl _ S.2.2.2.2.2)))))))); have ne1_0 := blkNe S.1; have ne1_1 := blkNe S.2.2.1; have ne1_2 := blkNe S.2.2.2.2.1; (first | have HB := hide (lecB HB.out b1) | have HB := hide (lecB (belAl HB.out _) b1)); clear b1; have I1 := hide i1; clear i1)
        | (go_at_call 18; have _t := tok2; clear tok2; refine (Mul_any _ sx s1 ax a1 lx n1 cx c1 2 2 (dx) (Ys) (by omega) (by first | exact IX.out | exact IX.out.al _) (by first | exact I1.out | exact I1.out.al _)).mono ?_; rintro e w2 ⟨s2, a2, n2, c2, rfl, i2, b2⟩; (try replace b2 := of_drew b2); (try (have bf0 := frozKeep b2 bx0 bf0; have bf1 := frozKeep b2 bx1 bf1; have bx0 := cellKeep b2 bx0; have bx1 := cellKeep b2 bx1)); (try (have bx0 := cellKeep b2 (cellNew0 w1); have bx1 := cellKeep b2 (cellNew1 w1); have bf0 := frozKeep b2 (cellNew0 w1) (frozNew w1 0); have bf1 := frozKeep b2 (cellNew1 w1) (frozNew w1 1); have bp := HB.out.size)); (first | have IX := hide (IX.out.below b2) | have IX := hide ((IX.out.al _).below b2)); (first | have IY := hide (IY.out.below b2) | have IY := hide ((IY.out.al _).below b2)); (first | have I1 := hide (I1.out.below b2) | have I1 := hide ((I1.out.al _).below b2)); (first | have S := (And.intro (cellKeep b2 S.1) (And.intro (cellKeep b2 S.2.1) (And.intro (cellKeep b2 S.2.2.1) (And.intro (cellKeep b2 S.2.2.2.1) (And.intro (cellKeep b2 S.2.2.2.2.1) (cellKeep b2 S.2.2.2.2.2)))))) | have S := (And.intro (cellKeep b2 (cellAl _ S.1)) (And.intro (cellKeep b2 (cellAl _ S.2.1)) (And.intro (cellKeep b2 (cellAl _ S.2.2.1)) (And.intro (cellKeep b2 (cellAl _ S.2.2.2.1)) (And.intro (cellKeep b2 (cellAl _ S.2.2.2.2.1)) (cellKeep b2 (cellAl _ S.2.2.2.2.2)))))))); have ne2_0 := blkNe S.1; have ne2_1 := blkNe S.2.2.1; have ne2_2 := blkNe S.2.2.2.2.1; (first | have HB := hide (lecB HB.out b2) | have HB := hide (lecB (belAl HB.out _) b2)); clear b2; have I2 := hide i2; clear i2)
        | (go_at_call 15; have _t := tok3; clear tok3; refine (Of_any _ (Xs) (by omega) (by omega)).mono ?_; rintro e w3 ⟨s3, a3, n3, c3, rfl, i3, b3⟩; (try replace b3 := of_drew b3); (try (have bf0 := frozKeep b3 bx0 bf0; have bf1 := frozKeep b3 bx1 bf1; have bx0 := cellKeep b3 bx0; have bx1 := cellKeep b3 bx1)); (try (have bx0 := cellKeep b3 (cellNew0 w2); have bx1 := cellKeep b3 (cellNew1 w2); have bf0 := frozKeep b3 (cellNew0 w2) (frozNew w2 0); have bf1 := frozKeep b3 (cellNew1 w2) (frozNew w2 1); have bp := HB.out.size)); (first | have IX := hide (IX.out.below b3) | have IX := hide ((IX.out.al _).below b3)); (first | have IY := hide (IY.out.below b3) | have IY := hide ((IY.out.al _).below b3)); (first | have I1 := hide (I1.out.below b3) | have I1 := hide ((I1.out.al _).below b3)); (first | have I2 := hide (I2.out.below b3) | have I2 := hide ((I2.out.al _).below b3)); (first | have S := (And.intro (cellKeep b3 S.1) (And.intro (cellKeep b3 S.2.1) (And.intro (cellKeep b3 S.2.2.1) (And.intro (cellKeep b3 S.2.2.2.1) (And.intro (cellKeep b3 S.2.2.2.2.1) (cellKeep b3 S.2.2.2.2.2)))))) | have S := (And.intro (cellKeep b3 (cellAl _ S.1)) (And.intro (cellKeep b3 (cellAl _ S.2.1)) (And.intro (cellKeep b3 (cellAl _ S.2.2.1)) (And.intro (cellKeep b3 (cellAl _ S.2.2.2.1)) (And.intro (cellKeep b3 (cellAl _ S.2.2.2.2.1)) (cellKeep b3 (cellAl _ S.2.2.2.2.2)))))))); have ne3_0 := blkNe S.1; have ne3_1 := blkNe S.2.2.1; have ne3_2 := blkNe S.2.2.2.2.1; (first | have HB := hide (lecB HB.out b3) | have HB := hide (lecB (belAl HB.out _) b3)); clear b3; have I3 := hide i3; clear i3)
        | (go_at_call 18; have _t := tok4; clear tok4; refine (Mul_any _ sy s3 ay a3 ly n3 cy c3 2 2 (dy) (Xs) (by omega) (by first | exact IY.out | exact IY.out.al _) (by first | exact I3.out | exact I3.out.al _)).mono ?_; rintro e w4 ⟨s4, a4, n4, c4, rfl, i4, b4⟩; (try replace b4 := of_drew b4); (try (have bf0 := frozKeep b4 bx0 bf0; have bf1 := frozKeep b4 bx1 bf1; have bx0 := cellKeep b4 bx0; have bx1 := cellKeep b4 bx1)); (try (have bx0 := cellKeep b4 (cellNew0 w3); have bx1 := cellKeep b4 (cellNew1 w3); have bf0 := frozKeep b4 (cellNew0 w3) (frozNew w3 0); have bf1 := frozKeep b4 (cellNew1 w3) (frozNew w3 1); have bp := HB.out.size)); (first | have IX := hide (IX.out.below b4) | have IX := hide ((IX.out.al _).below b4)); (first | have IY := hide (IY.out.below b4) | have IY := hide ((IY.out.al _).below b4)); (first | have I1 := hide (I1.out.below b4) | have I1 := hide ((I1.out.al _).below b4)); (first | have I2 := hide (I2.out.below b4) | have I2 := hide ((I2.out.al _).below b4)); (first | have I3 := hide (I3.out.below b4) | have I3 := hide ((I3.out.al _).below b4)); (first | have S := (And.intro (cellKeep b4 S.1) (And.intro (cellKeep b4 S.2.1) (And.intro (cellKeep b4 S.2.2.1) (And.intro (cellKeep b4 S.2.2.2.1) (And.intro (cellKeep b4 S.2.2.2.2.1) (cellKeep b4 S.2.2.2.2.2)))))) | have S := (And.intro (cellKeep b4 (cellAl _ S.1)) (And.intro (cellKeep b4 (cellAl _ S.2.1)) (And.intro (cellKeep b4 (cellAl _ S.2.2.1)) (And.intro (cellKeep b4 (cellAl _ S.2.2.2.1)) (And.intro (cellKeep b4 (cellAl _ S.2.2.2.2.1)) (cellKeep b4 (cellAl _ S.2.2.2.2.2)))))))); have ne4_0 := blkNe S.1; have ne4_1 := blkNe S.2.2.1; have ne4_2 := blkNe S.2.2.2.2.1; (first | have HB := hide (lecB HB.out b4) | have HB := hide (lecB (belAl HB.out _) b4)); clear b4; have I4 := hide i4; clear i4)
        | (go_at_call 60; have _t := tok5; clear tok5; refine (Sub_any _ s2 s4 a2 a4 n2 n4 c2 c4 4 4 4 ((dx) * (Ys)) ((dy) * (Xs)) (by omega) (by omega) (by omega) (by first | exact I2.out | exact I2.out.al _) (by first | exact I4.out | exact I4.out.al _)).mono ?_; rintro e w5 ⟨s5, a5, n5, c5, rfl, i5, b5⟩; (try replace b5 := of_drew b5); (try (have bf0 := frozKeep b5 bx0 bf0; have bf1 := frozKeep b5 bx1 bf1; have bx0 := cellKeep b5 bx0; have bx1 := cellKeep b5 bx1)); (try (have bx0 := cellKeep b5 (cellNew0 w4); have bx1 := cellKeep b5 (cellNew1 w4); have bf0 := frozKeep b5 (cellNew0 w4) (frozNew w4 0); have bf1 := frozKeep b5 (cellNew1 w4) (frozNew w4 1); have bp := HB.out.size)); (first | have IX := hide (IX.out.below b5) | have IX := hide ((IX.out.al _).below b5)); (first | have IY := hide (IY.out.below b5) | have IY := hide ((IY.out.al _).below b5)); (first | have I1 := hide (I1.out.below b5) | have I1 := hide ((I1.out.al _).below b5)); (first | have I2 := hide (I2.out.below b5) | have I2 := hide ((I2.out.al _).below b5)); (first | have I3 := hide (I3.out.below b5) | have I3 := hide ((I3.out.al _).below b5)); (first | have I4 := hide (I4.out.below b5) | have I4 := hide ((I4.out.al _).below b5)); (first | have S := (And.intro (cellKeep b5 S.1) (And.intro (cellKeep b5 S.2.1) (And.intro (cellKeep b5 S.2.2.1) (And.intro (cellKeep b5 S.2.2.2.1) (And.intro (cellKeep b5 S.2.2.2.2.1) (cellKeep b5 S.2.2.2.2.2)))))) | have S := (And.intro (cellKeep b5 (cellAl _ S.1)) (And.intro (cellKeep b5 (cellAl _ S.2.1)) (And.intro (cellKeep b5 (cellAl _ S.2.2.1)) (And.intro (cellKeep b5 (cellAl _ S.2.2.2.1)) (And.intro (cellKeep b5 (cellAl _ S.2.2.2.2.1)) (cellKeep b5 (cellAl _ S.2.2.2.2.2)))))))); have ne5_0 := blkNe S.1; have ne5_1 := blkNe S.2.2.1; have ne5_2 := blkNe S.2.2.2.2.1; (first | have HB := hide (lecB HB.out b5) | have HB := hide (lecB (belAl HB.out _) b5)); clear b5; have I5 := hide i5; clear i5))
    all_goals
      go_wp2_with fail
      go_meet
      first | exact ⟨_, rfl, HB.out.size, varNew I5.out, belAl HB.out _⟩ | exact ⟨_, rfl, bp, varSet I5.out bx0 bx1, belSet2 HB.out bp⟩
  obtain ⟨p10, rfl, hp10, hv10, hb⟩ := hcut
  have HV := hide hv10
  replace k0 := cellKeep hb k0
  replace k1 := cellKeep hb k1
  replace k2 := cellKeep hb k2
  replace k3 := cellKeep hb k3
  replace k6 := cellKeep hb k6
  replace k7 := cellKeep hb k7
  replace HI1 := hide (HI1.out.below hb)
  replace HI2 := hide (HI2.out.below hb)
  replace HBW := hide (lec HBW.out hb)
  clear S HB ne0 ne0b ne0c hb hv10 hp10 k4 k5
  clear w0
  obtain ⟨w0, hw0⟩ : ∃ W', W' = wc := ⟨_, rfl⟩
  subst hw0
  go_upto_region 3 with fail
  have S := And.intro k0 (And.intro k1 (And.intro k2 (And.intro k3 (And.intro k6 k7))))
  have HB := hide (Below.refl w0.heap.size w0)
  have ne0 := blkNe S.1
  have ne0b := blkNe S.2.2.1
  have ne0c := blkNe S.2.2.2.2.1
  go_cut [11] (fun x wx => ∃ p, x = .pointer (some ⟨p, 0, none⟩) ∧ w0.heap.size ≤ p ∧ VarI 5 wx p ((Xm) * (dy) - (Ym) * (dx)) ∧ Below w0.heap.size w0 wx)
  case first =>
    have IX := HI1
    have IY := HI2
    have tok1 : True := trivial
    have tok2 : True := trivial
    have tok3 : True := trivial
    have tok4 : True := trivial
    have tok5 : True := trivial
    go_region_held3 (fun w' => w'.cell? ⟨p6, 0, none⟩ = some (.bool sx) ∧ w'.cell? ⟨p6, 1, none⟩ = some (.slice ax lx cx) ∧ w'.cell? ⟨p7, 0, none⟩ = some (.bool sy) ∧ w'.cell? ⟨p7, 1, none⟩ = some (.slice ay ly cy) ∧ w'.cell? ⟨bm, m, none⟩ = some (.int .i64 Xm) ∧ w'.cell? ⟨bm, 4096 + m, none⟩ = some (.int .i64 Ym)) (first | (with_reducible exact S) | (with_reducible exact (by simpa only [World.cell?_drew] using S)) | (with_reducible exact s6al _ S) | (with_reducible exact (by simpa only [World.cell?_drew] using s6al _ S)) | (exact s6set S (by assumption) (by assumption) (by assumption) (by assumption) (by assumption) (by assumption)) | (exact s6set (s6set S (by assumption) (by assumption) (by assumption) (by assumption) (by assumption) (by assumption)) (by assumption) (by assumption) (by assumption) (by assumption) (by assumption) (by assumption)))
      (first
        | (go_at_call 15; have _t := tok1; clear tok1; refine (Of_any _ (Xm) (by omega) (by omega)).mono ?_; rintro e w1 ⟨s1, a1, n1, c1, rfl, i1, b1⟩; (try replace b1 := of_drew b1); (try (have bf0 := frozKeep b1 bx0 bf0; have bf1 := frozKeep b1 bx1 bf1; have bx0 := cellKeep b1 bx0; have bx1 := cellKeep b1 bx1)); (try (have bx0 := cellKeep b1 (cellNew0 w0); have bx1 := cellKeep b1 (cellNew1 w0); have bf0 := frozKeep b1 (cellNew0 w0) (frozNew w0 0); have bf1 := frozKeep b1 (cellNew1 w0) (frozNew w0 1); have bp := HB.out.size)); (first | have IX := hide (IX.out.below b1) | have IX := hide ((IX.out.al _).below b1)); (first | have IY := hide (IY.out.below b1) | have IY := hide ((IY.out.al _).below b1)); (first | have S := (And.intro (cellKeep b1 S.1) (And.intro (cellKeep b1 S.2.1) (And.intro (cellKeep b1 S.2.2.1) (And.intro (cellKeep b1 S.2.2.2.1) (And.intro (cellKeep b1 S.2.2.2.2.1) (cellKeep b1 S.2.2.2.2.2)))))) | have S := (And.intro (cellKeep b1 (cellAl _ S.1)) (And.intro (cellKeep b1 (cellAl _ S.2.1)) (And.intro (cellKeep b1 (cellAl _ S.2.2.1)) (And.intro (cellKeep b1 (cellAl _ S.2.2.2.1)) (And.intro (cellKeep b1 (cellAl _ S.2.2.2.2.1)) (cellKeep b1 (cellAl _ S.2.2.2.2.2)))))))); have ne1_0 := blkNe S.1; have ne1_1 := blkNe S.2.2.1; have ne1_2 := blkNe S.2.2.2.2.1; (first | have HB := hide (lecB HB.out b1) | have HB := hide (lecB (belAl HB.out _) b1)); clear b1; have I1 := hide i1; clear i1)
        | (go_at_call 18; have _t := tok2; clear tok2; refine (Mul_any _ s1 sy a1 ay n1 ly c1 cy 2 2 (Xm) (dy) (by omega) (by first | exact I1.out | exact I1.out.al _) (by first | exact IY.out | exact IY.out.al _)).mono ?_; rintro e w2 ⟨s2, a2, n2, c2, rfl, i2, b2⟩; (try replace b2 := of_drew b2); (try (have bf0 := frozKeep b2 bx0 bf0; have bf1 := frozKeep b2 bx1 bf1; have bx0 := cellKeep b2 bx0; have bx1 := cellKeep b2 bx1)); (try (have bx0 := cellKeep b2 (cellNew0 w1); have bx1 := cellKeep b2 (cellNew1 w1); have bf0 := frozKeep b2 (cellNew0 w1) (frozNew w1 0); have bf1 := frozKeep b2 (cellNew1 w1) (frozNew w1 1); have bp := HB.out.size)); (first | have IX := hide (IX.out.below b2) | have IX := hide ((IX.out.al _).below b2)); (first | have IY := hide (IY.out.below b2) | have IY := hide ((IY.out.al _).below b2)); (first | have I1 := hide (I1.out.below b2) | have I1 := hide ((I1.out.al _).below b2)); (first | have S := (And.intro (cellKeep b2 S.1) (And.intro (cellKeep b2 S.2.1) (And.intro (cellKeep b2 S.2.2.1) (And.intro (cellKeep b2 S.2.2.2.1) (And.intro (cellKeep b2 S.2.2.2.2.1) (cellKeep b2 S.2.2.2.2.2)))))) | have S := (And.intro (cellKeep b2 (cellAl _ S.1)) (And.intro (cellKeep b2 (cellAl _ S.2.1)) (And.intro (cellKeep b2 (cellAl _ S.2.2.1)) (And.intro (cellKeep b2 (cellAl _ S.2.2.2.1)) (And.intro (cellKeep b2 (cellAl _ S.2.2.2.2.1)) (cellKeep b2 (cellAl _ S.2.2.2.2.2)))))))); have ne2_0 := blkNe S.1; have ne2_1 := blkNe S.2.2.1; have ne2_2 := blkNe S.2.2.2.2.1; (first | have HB := hide (lecB HB.out b2) | have HB := hide (lecB (belAl HB.out _) b2)); clear b2; have I2 := hide i2; clear i2)
        | (go_at_call 15; have _t := tok3; clear tok3; refine (Of_any _ (Ym) (by omega) (by omega)).mono ?_; rintro e w3 ⟨s3, a3, n3, c3, rfl, i3, b3⟩; (try replace b3 := of_drew b3); (try (have bf0 := frozKeep b3 bx0 bf0; have bf1 := frozKeep b3 bx1 bf1; have bx0 := cellKeep b3 bx0; have bx1 := cellKeep b3 bx1)); (try (have bx0 := cellKeep b3 (cellNew0 w2); have bx1 := cellKeep b3 (cellNew1 w2); have bf0 := frozKeep b3 (cellNew0 w2) (frozNew w2 0); have bf1 := frozKeep b3 (cellNew1 w2) (frozNew w2 1); have bp := HB.out.size)); (first | have IX := hide (IX.out.below b3) | have IX := hide ((IX.out.al _).below b3)); (first | have IY := hide (IY.out.below b3) | have IY := hide ((IY.out.al _).below b3)); (first | have I1 := hide (I1.out.below b3) | have I1 := hide ((I1.out.al _).below b3)); (first | have I2 := hide (I2.out.below b3) | have I2 := hide ((I2.out.al _).below b3)); (first | have S := (And.intro (cellKeep b3 S.1) (And.intro (cellKeep b3 S.2.1) (And.intro (cellKeep b3 S.2.2.1) (And.intro (cellKeep b3 S.2.2.2.1) (And.intro (cellKeep b3 S.2.2.2.2.1) (cellKeep b3 S.2.2.2.2.2)))))) | have S := (And.intro (cellKeep b3 (cellAl _ S.1)) (And.intro (cellKeep b3 (cellAl _ S.2.1)) (And.intro (cellKeep b3 (cellAl _ S.2.2.1)) (And.intro (cellKeep b3 (cellAl _ S.2.2.2.1)) (And.intro (cellKeep b3 (cellAl _ S.2.2.2.2.1)) (cellKeep b3 (cellAl _ S.2.2.2.2.2)))))))); have ne3_0 := blkNe S.1; have ne3_1 := blkNe S.2.2.1; have ne3_2 := blkNe S.2.2.2.2.1; (first | have HB := hide (lecB HB.out b3) | have HB := hide (lecB (belAl HB.out _) b3)); clear b3; have I3 := hide i3; clear i3)
        | (go_at_call 18; have _t := tok4; clear tok4; refine (Mul_any _ s3 sx a3 ax n3 lx c3 cx 2 2 (Ym) (dx) (by omega) (by first | exact I3.out | exact I3.out.al _) (by first | exact IX.out | exact IX.out.al _)).mono ?_; rintro e w4 ⟨s4, a4, n4, c4, rfl, i4, b4⟩; (try replace b4 := of_drew b4); (try (have bf0 := frozKeep b4 bx0 bf0; have bf1 := frozKeep b4 bx1 bf1; have bx0 := cellKeep b4 bx0; have bx1 := cellKeep b4 bx1)); (try (have bx0 := cellKeep b4 (cellNew0 w3); have bx1 := cellKeep b4 (cellNew1 w3); have bf0 := frozKeep b4 (cellNew0 w3) (frozNew w3 0); have bf1 := frozKeep b4 (cellNew1 w3) (frozNew w3 1); have bp := HB.out.size)); (first | have IX := hide (IX.out.below b4) | have IX := hide ((IX.out.al _).below b4)); (first | have IY := hide (IY.out.below b4) | have IY := hide ((IY.out.al _).below b4)); (first | have I1 := hide (I1.out.below b4) | have I1 := hide ((I1.out.al _).below b4)); (first | have I2 := hide (I2.out.below b4) | have I2 := hide ((I2.out.al _).below b4)); (first | have I3 := hide (I3.out.below b4) | have I3 := hide ((I3.out.al _).below b4)); (first | have S := (And.intro (cellKeep b4 S.1) (And.intro (cellKeep b4 S.2.1) (And.intro (cellKeep b4 S.2.2.1) (And.intro (cellKeep b4 S.2.2.2.1) (And.intro (cellKeep b4 S.2.2.2.2.1) (cellKeep b4 S.2.2.2.2.2)))))) | have S := (And.intro (cellKeep b4 (cellAl _ S.1)) (And.intro (cellKeep b4 (cellAl _ S.2.1)) (And.intro (cellKeep b4 (cellAl _ S.2.2.1)) (And.intro (cellKeep b4 (cellAl _ S.2.2.2.1)) (And.intro (cellKeep b4 (cellAl _ S.2.2.2.2.1)) (cellKeep b4 (cellAl _ S.2.2.2.2.2)))))))); have ne4_0 := blkNe S.1; have ne4_1 := blkNe S.2.2.1; have ne4_2 := blkNe S.2.2.2.2.1; (first | have HB := hide (lecB HB.out b4) | have HB := hide (lecB (belAl HB.out _) b4)); clear b4; have I4 := hide i4; clear i4)
        | (go_at_call 60; have _t := tok5; clear tok5; refine (Sub_any _ s2 s4 a2 a4 n2 n4 c2 c4 4 4 4 ((Xm) * (dy)) ((Ym) * (dx)) (by omega) (by omega) (by omega) (by first | exact I2.out | exact I2.out.al _) (by first | exact I4.out | exact I4.out.al _)).mono ?_; rintro e w5 ⟨s5, a5, n5, c5, rfl, i5, b5⟩; (try replace b5 := of_drew b5); (try (have bf0 := frozKeep b5 bx0 bf0; have bf1 := frozKeep b5 bx1 bf1; have bx0 := cellKeep b5 bx0; have bx1 := cellKeep b5 bx1)); (try (have bx0 := cellKeep b5 (cellNew0 w4); have bx1 := cellKeep b5 (cellNew1 w4); have bf0 := frozKeep b5 (cellNew0 w4) (frozNew w4 0); have bf1 := frozKeep b5 (cellNew1 w4) (frozNew w4 1); have bp := HB.out.size)); (first | have IX := hide (IX.out.below b5) | have IX := hide ((IX.out.al _).below b5)); (first | have IY := hide (IY.out.below b5) | have IY := hide ((IY.out.al _).below b5)); (first | have I1 := hide (I1.out.below b5) | have I1 := hide ((I1.out.al _).below b5)); (first | have I2 := hide (I2.out.below b5) | have I2 := hide ((I2.out.al _).below b5)); (first | have I3 := hide (I3.out.below b5) | have I3 := hide ((I3.out.al _).below b5)); (first | have I4 := hide (I4.out.below b5) | have I4 := hide ((I4.out.al _).below b5)); (first | have S := (And.intro (cellKeep b5 S.1) (And.intro (cellKeep b5 S.2.1) (And.intro (cellKeep b5 S.2.2.1) (And.intro (cellKeep b5 S.2.2.2.1) (And.intro (cellKeep b5 S.2.2.2.2.1) (cellKeep b5 S.2.2.2.2.2)))))) | have S := (And.intro (cellKeep b5 (cellAl _ S.1)) (And.intro (cellKeep b5 (cellAl _ S.2.1)) (And.intro (cellKeep b5 (cellAl _ S.2.2.1)) (And.intro (cellKeep b5 (cellAl _ S.2.2.2.1)) (And.intro (cellKeep b5 (cellAl _ S.2.2.2.2.1)) (cellKeep b5 (cellAl _ S.2.2.2.2.2)))))))); have ne5_0 := blkNe S.1; have ne5_1 := blkNe S.2.2.1; have ne5_2 := blkNe S.2.2.2.2.1; (first | have HB := hide (lecB HB.out b5) | have HB := hide (lecB (belAl HB.out _) b5)); clear b5; have I5 := hide i5; clear i5))
    all_goals
      go_wp2_with fail
      go_meet
      first | exact ⟨_, rfl, HB.out.size, varNew I5.out, belAl HB.out _⟩ | exact ⟨_, rfl, bp, varSet I5.out bx0 bx1, belSet2 HB.out bp⟩
  obtain ⟨p11, rfl, hp11, hv11, hb⟩ := hcut
  have HV1 := hide (HV.out.below hb)
  have HV2 := hide hv11
  replace HBW := hide (lec HBW.out hb)
  clear S HB ne0 ne0b ne0c hb hv11 hp11 HV k0 k1 k2 k3 k6 k7 HI1 HI2
  obtain ⟨s3, a3, n3, c3, x0, x1, i3⟩ := HV1.out
  obtain ⟨s4, a4, n4, c4, y0, y1, i4⟩ := HV2.out
  have I3 := hide i3
  have I4 := hide i4
  clear i3 i4 HV1 HV2
  obtain ⟨u, hu⟩ : ∃ u, dx * Ys - dy * Xs = u := ⟨_, rfl⟩
  obtain ⟨v, hv⟩ : ∃ u, Xm * dy - Ym * dx = u := ⟨_, rfl⟩
  rw [hu] at I3
  rw [hv] at I4
  have HUV := hide (And.intro hu hv)
  clear hu hv
  by_cases hu0 : 0 ≤ u
  · have g1 : decide (0 ≤ sgn u) = true := by simpa [sgn_ge0] using hu0
    go_wp2_with fail
    refine (Sign_any _ s3 a3 n3 c3 5 u I3.out).mono ?_
    rintro e w3 ⟨rfl, b3⟩
    have I5 := hide (I4.out.below b3)
    have z0 := cellKeep b3 y0
    have z1 := cellKeep b3 y1
    have HB3 := hide (lec HBW.out b3)
    clear b3 I3 I4 x0 x1 y0 y1 HBW
    go_wp2_with fail
    refine (Sign_any _ s4 a4 n4 c4 5 v I5.out).mono ?_
    rintro e w4 ⟨rfl, b4⟩
    have HB4 := hide (lec HB3.out b4)
    clear b4 HB3 I5 z0 z1
    go_wp2
    go_ret
    refine ⟨ret_bool ?_, HB4.out⟩
    rw [HUV.out.1, HUV.out.2, Bool.eq_iff_iff]
    simp [sgn_gt0, hu0]
  · have g1 : decide (0 ≤ sgn u) = false := by simp [sgn_ge0, hu0]
    go_wp2_with fail
    refine (Sign_any _ s3 a3 n3 c3 5 u I3.out).mono ?_
    rintro e w3 ⟨rfl, b3⟩
    have HB3 := hide (lec HBW.out b3)
    clear b3 I3 I4 x0 x1 y0 y1 HBW
    go_wp2
    go_ret
    refine ⟨ret_bool ?_, HB3.out⟩
    rw [HUV.out.1, HUV.out.2, Bool.eq_iff_iff]
    simp
    omega
end Go.Proofs.Qxb6500775a
