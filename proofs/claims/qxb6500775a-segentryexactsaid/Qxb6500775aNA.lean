import Derived.Test.Qxb6500775aEntW
import Derived.Test.Qxb6500775aRat
namespace Go.Proofs.Qxb6500775a
open Go.RowKit

theorem t6al {w : World} {q1 q2 q3 q4 q5 q6 : Addr} {v1 v2 v3 v4 v5 v6 : Value} (o : Obj) (h : w.cell? q1 = some v1 ∧ w.cell? q2 = some v2 ∧ w.cell? q3 = some v3 ∧ w.cell? q4 = some v4 ∧ w.cell? q5 = some v5 ∧ w.cell? q6 = some v6) : (w.alloc o).cell? q1 = some v1 ∧ (w.alloc o).cell? q2 = some v2 ∧ (w.alloc o).cell? q3 = some v3 ∧ (w.alloc o).cell? q4 = some v4 ∧ (w.alloc o).cell? q5 = some v5 ∧ (w.alloc o).cell? q6 = some v6 :=
  ⟨cellAl _ h.1, cellAl _ h.2.1, cellAl _ h.2.2.1, cellAl _ h.2.2.2.1, cellAl _ h.2.2.2.2.1, cellAl _ h.2.2.2.2.2⟩
theorem t6set {w : World} {q1 q2 q3 q4 q5 q6 : Addr} {v1 v2 v3 v4 v5 v6 : Value} {pd k : Nat} {v : Value} (h : w.cell? q1 = some v1 ∧ w.cell? q2 = some v2 ∧ w.cell? q3 = some v3 ∧ w.cell? q4 = some v4 ∧ w.cell? q5 = some v5 ∧ w.cell? q6 = some v6) (n1 : ¬ pd = q1.block) (n2 : ¬ pd = q2.block) (n3 : ¬ pd = q3.block) (n4 : ¬ pd = q4.block) (n5 : ¬ pd = q5.block) (n6 : ¬ pd = q6.block) :
    (w.setCell ⟨pd, k, none⟩ v).cell? q1 = some v1 ∧ (w.setCell ⟨pd, k, none⟩ v).cell? q2 = some v2 ∧ (w.setCell ⟨pd, k, none⟩ v).cell? q3 = some v3 ∧ (w.setCell ⟨pd, k, none⟩ v).cell? q4 = some v4 ∧ (w.setCell ⟨pd, k, none⟩ v).cell? q5 = some v5 ∧ (w.setCell ⟨pd, k, none⟩ v).cell? q6 = some v6 := by
  have key : ∀ (q : Addr) (x : Value), ¬ pd = q.block → w.cell? q = some x → (w.setCell ⟨pd, k, none⟩ v).cell? q = some x := fun q x hn hq => by
    rw [World.cell?_setCell_other _ _ _ _ (fun e => hn (by rw [← e]))]; exact hq
  exact ⟨key _ _ n1 h.1, key _ _ n2 h.2.1, key _ _ n3 h.2.2.1, key _ _ n4 h.2.2.2.1, key _ _ n5 h.2.2.2.2.1, key _ _ n6 h.2.2.2.2.2⟩
def naB (al len cr r q : Int) : Bool := decide (0 ≤ al * 65536 - q * len ∧ (r * r * len - cr * cr) * (65536 * 65536) ≤ (al * 65536 - q * len) * (al * 65536 - q * len))
theorem naB_iff {al len cr r q : Int} : naB al len cr r q = true ↔ NA al len cr r q := by unfold naB NA; simp only [decide_eq_true_eq]
theorem sgnN_lt {z : Int} : sgn z < 0 ↔ z < 0 := by unfold sgn; split <;> (try split) <;> omega
theorem sgnN_le {z : Int} : sgn z ≤ 0 ↔ z ≤ 0 := by unfold sgn; split <;> (try split) <;> omega
set_option maxRecDepth 100000 in
set_option maxHeartbeats 8000000 in
theorem notAfter_any (w : World) (sa : Bool) (aa : Option Addr) (na ca : Nat) (sl : Bool) (al' : Option Addr) (nl cl : Nat) (sc : Bool) (ac : Option Addr) (nc cc : Nat) (sd : Bool) (ad : Option Addr) (nd cd : Nat) (se : Bool) (ae : Option Addr) (ne ce : Nat) (al len cr r q : Int) (hr : -9223372036854775808 ≤ r ∧ r < 9223372036854775808) (hq : -9223372036854775808 ≤ q ∧ q < 9223372036854775808) (g1 : IsI 8 w sa aa na ca al) (g2 : IsI 8 w sl al' nl cl len) (g3 : IsI 8 w sc ac nc cc cr) :
    Calls Try.prog 36 #[.agg #[.bool sa, .slice aa na ca, .bool sl, .slice al' nl cl, .bool sc, .slice ac nc cc, .bool sd, .slice ad nd cd, .bool se, .slice ae ne ce], .int .i64 r, .int .i64 q] w fun e w' => e = .returned (.bool (naB al len cr r q)) ∧ Below w.heap.size w w' := by
  obtain ⟨hr1, hr2⟩ := hr
  obtain ⟨hq1, hq2⟩ := hq
  obtain ⟨rr, hrr⟩ : ∃ x, r * r = x := ⟨_, rfl⟩
  have HRR := hide hrr
  have HNA : Hid (naB al len cr r q = decide (0 ≤ al * 65536 - q * len ∧ (rr * len - cr * cr) * (65536 * 65536) ≤ (al * 65536 - q * len) * (al * 65536 - q * len))) := hide (by unfold naB; rw [hrr])
  rw [HNA.out]
  clear hrr HNA
  have hb0 := (Below.refl w.heap.size w).alloc (Nat.le_refl _) (.cells #[.bool sa, .slice aa na ca, .bool sl, .slice al' nl cl, .bool sc, .slice ac nc cc, .bool sd, .slice ad nd cd, .bool se, .slice ae ne ce] 53)
  have HG1 := hide (g1.below hb0)
  have HG2 := hide (g2.below hb0)
  have HG3 := hide (g3.below hb0)
  have HBW := hide hb0
  have k0 : (w.alloc (.cells #[.bool sa, .slice aa na ca, .bool sl, .slice al' nl cl, .bool sc, .slice ac nc cc, .bool sd, .slice ad nd cd, .bool se, .slice ae ne ce] 53)).cell? ⟨w.heap.size, 0, none⟩ = some (.bool sa) := by simp [go_sem]
  have k1 : (w.alloc (.cells #[.bool sa, .slice aa na ca, .bool sl, .slice al' nl cl, .bool sc, .slice ac nc cc, .bool sd, .slice ad nd cd, .bool se, .slice ae ne ce] 53)).cell? ⟨w.heap.size, 1, none⟩ = some (.slice aa na ca) := by simp [go_sem]
  have k2 : (w.alloc (.cells #[.bool sa, .slice aa na ca, .bool sl, .slice al' nl cl, .bool sc, .slice ac nc cc, .bool sd, .slice ad nd cd, .bool se, .slice ae ne ce] 53)).cell? ⟨w.heap.size, 2, none⟩ = some (.bool sl) := by simp [go_sem]
  have k3 : (w.alloc (.cells #[.bool sa, .slice aa na ca, .bool sl, .slice al' nl cl, .bool sc, .slice ac nc cc, .bool sd, .slice ad nd cd, .bool se, .slice ae ne ce] 53)).cell? ⟨w.heap.size, 3, none⟩ = some (.slice al' nl cl) := by simp [go_sem]
  have k4 : (w.alloc (.cells #[.bool sa, .slice aa na ca, .bool sl, .slice al' nl cl, .bool sc, .slice ac nc cc, .bool sd, .slice ad nd cd, .bool se, .slice ae ne ce] 53)).cell? ⟨w.heap.size, 4, none⟩ = some (.bool sc) := by simp [go_sem]
  have k5 : (w.alloc (.cells #[.bool sa, .slice aa na ca, .bool sl, .slice al' nl cl, .bool sc, .slice ac nc cc, .bool sd, .slice ad nd cd, .bool se, .slice ae ne ce] 53)).cell? ⟨w.heap.size, 5, none⟩ = some (.slice ac nc cc) := by simp [go_sem]
  clear g1 g2 g3 hb0
  go_enter Try.func36, Try.ntmps36
  go_upto_region 1 with fail
  generalize w.alloc (.cells #[.bool sa, .slice aa na ca, .bool sl, .slice al' nl cl, .bool sc, .slice ac nc cc, .bool sd, .slice ad nd cd, .bool se, .slice ae ne ce] 53) = W0 at *
  obtain ⟨pb, hpb⟩ : ∃ p, w.heap.size = p := ⟨_, rfl⟩
  rw [hpb] at k0 k1 k2 k3 k4 k5 ⊢
  clear hpb
  go_wp2_with fail
  refine (Of_any _ 65536 (by omega) (by omega)).mono ?_
  rintro e v1 ⟨su, au, nu, cu, rfl, iu, bu⟩
  have bu' := belAl bu (.cells #[.bool su, .slice au nu cu] 26)
  have VU := hide (iu.al (.cells #[.bool su, .slice au nu cu] 26))
  have k6 : (v1.alloc (.cells #[.bool su, .slice au nu cu] 26)).cell? ⟨v1.heap.size, 0, none⟩ = some (.bool su) := by simp [go_sem]
  have k7 : (v1.alloc (.cells #[.bool su, .slice au nu cu] 26)).cell? ⟨v1.heap.size, 1, none⟩ = some (.slice au nu cu) := by simp [go_sem]
  replace k0 := cellKeep bu' k0
  replace k1 := cellKeep bu' k1
  replace k2 := cellKeep bu' k2
  replace k3 := cellKeep bu' k3
  replace k4 := cellKeep bu' k4
  replace k5 := cellKeep bu' k5
  replace HG1 := hide (HG1.out.below bu')
  replace HG2 := hide (HG2.out.below bu')
  replace HG3 := hide (HG3.out.below bu')
  replace HBW := hide (lec HBW.out bu')
  clear iu bu bu'
  go_upto_region 2 with fail
  generalize v1.alloc (.cells #[.bool su, .slice au nu cu] 26) = W1 at *
  generalize v1.heap.size = pu at *
  go_wp2_with fail
  refine (Of_any _ r hr1 hr2).mono ?_
  rintro e v2 ⟨t7, u7, m7, d7, rfl, i7, b7⟩
  have I7 := hide i7
  have B7 := hide b7
  clear i7 b7
  go_wp2_with fail
  refine (Of_any _ r hr1 hr2).mono ?_
  rintro e v3 ⟨t8, u8, m8, d8, rfl, i8, b8⟩
  have I8 := hide i8
  have I7' := hide (I7.out.below b8)
  have B8 := hide (lec B7.out b8)
  clear i8 b8 I7 B7
  go_wp2_with fail
  refine (Mul_any _ t7 t8 u7 u8 m7 m8 d7 d8 2 2 r r (by omega) I7'.out I8.out).mono ?_
  rintro e v4 ⟨sr, ar, nr, cr', rfl, i9, b9⟩
  rw [HRR.out] at i9
  have b10 := belAl (lec B8.out b9) (.cells #[.bool sr, .slice ar nr cr'] 26)
  have VR := hide (i9.al (.cells #[.bool sr, .slice ar nr cr'] 26))
  have k8 : (v4.alloc (.cells #[.bool sr, .slice ar nr cr'] 26)).cell? ⟨v4.heap.size, 0, none⟩ = some (.bool sr) := by simp [go_sem]
  have k9 : (v4.alloc (.cells #[.bool sr, .slice ar nr cr'] 26)).cell? ⟨v4.heap.size, 1, none⟩ = some (.slice ar nr cr') := by simp [go_sem]
  replace k0 := cellKeep b10 k0
  replace k1 := cellKeep b10 k1
  replace k2 := cellKeep b10 k2
  replace k3 := cellKeep b10 k3
  replace k4 := cellKeep b10 k4
  replace k5 := cellKeep b10 k5
  replace k6 := cellKeep b10 k6
  replace k7 := cellKeep b10 k7
  replace HG1 := hide (HG1.out.below b10)
  replace HG2 := hide (HG2.out.below b10)
  replace HG3 := hide (HG3.out.below b10)
  replace VU := hide (VU.out.below b10)
  replace HBW := hide (lec HBW.out b10)
  clear i9 b9 b10 B8 I7' I8
  go_upto_region 3 with fail
  generalize v4.alloc (.cells #[.bool sr, .slice ar nr cr'] 26) = w0 at *
  generalize v4.heap.size = pr at *
  have S := And.intro k8 (And.intro k9 (And.intro k2 (And.intro k3 (And.intro k4 k5))))
  have HB := hide (Below.refl w0.heap.size w0)
  have ne0_0 := blkNe S.1
  have ne0_1 := blkNe S.2.2.1
  go_cut [9] (fun x wx => ∃ p, x = .pointer (some ⟨p, 0, none⟩) ∧ w0.heap.size ≤ p ∧ VarI 17 wx p ((rr) * (len) - (cr) * (cr)) ∧ Below w0.heap.size w0 wx)
  case first =>
    have IR := VR
    have IL := HG2
    have IC := HG3
    have tok1 : True := trivial
    have tok2 : True := trivial
    have tok3 : True := trivial
    go_region_held3 (fun w' => w'.cell? ⟨pr, 0, none⟩ = some (.bool sr) ∧ w'.cell? ⟨pr, 1, none⟩ = some (.slice ar nr cr') ∧ w'.cell? ⟨pb, 2, none⟩ = some (.bool sl) ∧ w'.cell? ⟨pb, 3, none⟩ = some (.slice al' nl cl) ∧ w'.cell? ⟨pb, 4, none⟩ = some (.bool sc) ∧ w'.cell? ⟨pb, 5, none⟩ = some (.slice ac nc cc)) (first | (with_reducible exact S) | (with_reducible exact (by simpa only [World.cell?_drew] using S)) | (with_reducible exact t6al _ S) | (with_reducible exact (by simpa only [World.cell?_drew] using t6al _ S)) | (exact t6set S (by assumption) (by assumption) (by assumption) (by assumption) (by assumption) (by assumption)) | (exact t6set (t6set S (by assumption) (by assumption) (by assumption) (by assumption) (by assumption) (by assumption)) (by assumption) (by assumption) (by assumption) (by assumption) (by assumption) (by assumption)))
      (first
        | (go_at_call 18; have _t := tok1; clear tok1; refine (Mul_any _ sr sl ar al' nr nl cr' cl 4 8 (rr) (len) (by omega) (by first | exact IR.out.dr | exact (IR.out.al _).dr) (by first | exact IL.out.dr | exact (IL.out.al _).dr)).mono ?_; rintro e w1 ⟨s1, a1, n1, c1, rfl, i1, b1⟩; (try replace b1 := of_drew b1); (try (have bf0 := frozKeep b1 bx0 bf0; have bf1 := frozKeep b1 bx1 bf1; have bx0 := cellKeep b1 bx0; have bx1 := cellKeep b1 bx1)); (try (have bx0 := cellKeep b1 (cellNew0 w0); have bx1 := cellKeep b1 (cellNew1 w0); have bf0 := frozKeep b1 (cellNew0 w0) (frozNew w0 0); have bf1 := frozKeep b1 (cellNew1 w0) (frozNew w0 1); have bp := HB.out.size)); (first | have IR := hide (IR.out.below b1) | have IR := hide ((IR.out.al _).below b1)); (first | have IL := hide (IL.out.below b1) | have IL := hide ((IL.out.al _).below b1)); (first | have IC := hide (IC.out.below b1) | have IC := hide ((IC.out.al _).below b1)); (first | have S := (And.intro (cellKeep b1 S.1) (And.intro (cellKeep b1 S.2.1) (And.intro (cellKeep b1 S.2.2.1) (And.intro (cellKeep b1 S.2.2.2.1) (And.intro (cellKeep b1 S.2.2.2.2.1) (cellKeep b1 S.2.2.2.2.2)))))) | have S := (And.intro (cellKeep b1 (cellAl _ S.1)) (And.intro (cellKeep b1 (cellAl _ S.2.1)) (And.intro (cellKeep b1 (cellAl _ S.2.2.1)) (And.intro (cellKeep b1 (cellAl _ S.2.2.2.1)) (And.intro (cellKeep b1 (cellAl _ S.2.2.2.2.1)) (cellKeep b1 (cellAl _ S.2.2.2.2.2)))))))); have ne1_0 := blkNe S.1; have ne1_1 := blkNe S.2.2.1; (first | have HB := hide (lecB HB.out b1) | have HB := hide (lecB (belAl HB.out _) b1)); clear b1; have I1 := hide i1; clear i1)
        | (go_at_call 18; have _t := tok2; clear tok2; refine (Mul_any _ sc sc ac ac nc nc cc cc 8 8 (cr) (cr) (by omega) (by first | exact IC.out | exact IC.out.al _) (by first | exact IC.out | exact IC.out.al _)).mono ?_; rintro e w2 ⟨s2, a2, n2, c2, rfl, i2, b2⟩; (try replace b2 := of_drew b2); (try (have bf0 := frozKeep b2 bx0 bf0; have bf1 := frozKeep b2 bx1 bf1; have bx0 := cellKeep b2 bx0; have bx1 := cellKeep b2 bx1)); (try (have bx0 := cellKeep b2 (cellNew0 w1); have bx1 := cellKeep b2 (cellNew1 w1); have bf0 := frozKeep b2 (cellNew0 w1) (frozNew w1 0); have bf1 := frozKeep b2 (cellNew1 w1) (frozNew w1 1); have bp := HB.out.size)); (first | have IR := hide (IR.out.below b2) | have IR := hide ((IR.out.al _).below b2)); (first | have IL := hide (IL.out.below b2) | have IL := hide ((IL.out.al _).below b2)); (first | have IC := hide (IC.out.below b2) | have IC := hide ((IC.out.al _).below b2)); (first | have I1 := hide (I1.out.below b2) | have I1 := hide ((I1.out.al _).below b2)); (first | have S := (And.intro (cellKeep b2 S.1) (And.intro (cellKeep b2 S.2.1) (And.intro (cellKeep b2 S.2.2.1) (And.intro (cellKeep b2 S.2.2.2.1) (And.intro (cellKeep b2 S.2.2.2.2.1) (cellKeep b2 S.2.2.2.2.2)))))) | have S := (And.intro (cellKeep b2 (cellAl _ S.1)) (And.intro (cellKeep b2 (cellAl _ S.2.1)) (And.intro (cellKeep b2 (cellAl _ S.2.2.1)) (And.intro (cellKeep b2 (cellAl _ S.2.2.2.1)) (And.intro (cellKeep b2 (cellAl _ S.2.2.2.2.1)) (cellKeep b2 (cellAl _ S.2.2.2.2.2)))))))); have ne2_0 := blkNe S.1; have ne2_1 := blkNe S.2.2.1; (first | have HB := hide (lecB HB.out b2) | have HB := hide (lecB (belAl HB.out _) b2)); clear b2; have I2 := hide i2; clear i2)
        | (go_at_call 60; have _t := tok3; clear tok3; refine (Sub_any _ s1 s2 a1 a2 n1 n2 c1 c2 12 16 16 ((rr) * (len)) ((cr) * (cr)) (by omega) (by omega) (by omega) (by first | exact I1.out | exact I1.out.al _) (by first | exact I2.out | exact I2.out.al _)).mono ?_; rintro e w3 ⟨s3, a3, n3, c3, rfl, i3, b3⟩; (try replace b3 := of_drew b3); (try (have bf0 := frozKeep b3 bx0 bf0; have bf1 := frozKeep b3 bx1 bf1; have bx0 := cellKeep b3 bx0; have bx1 := cellKeep b3 bx1)); (try (have bx0 := cellKeep b3 (cellNew0 w2); have bx1 := cellKeep b3 (cellNew1 w2); have bf0 := frozKeep b3 (cellNew0 w2) (frozNew w2 0); have bf1 := frozKeep b3 (cellNew1 w2) (frozNew w2 1); have bp := HB.out.size)); (first | have IR := hide (IR.out.below b3) | have IR := hide ((IR.out.al _).below b3)); (first | have IL := hide (IL.out.below b3) | have IL := hide ((IL.out.al _).below b3)); (first | have IC := hide (IC.out.below b3) | have IC := hide ((IC.out.al _).below b3)); (first | have I1 := hide (I1.out.below b3) | have I1 := hide ((I1.out.al _).below b3)); (first | have I2 := hide (I2.out.below b3) | have I2 := hide ((I2.out.al _).below b3)); (first | have S := (And.intro (cellKeep b3 S.1) (And.intro (cellKeep b3 S.2.1) (And.intro (cellKeep b3 S.2.2.1) (And.intro (cellKeep b3 S.2.2.2.1) (And.intro (cellKeep b3 S.2.2.2.2.1) (cellKeep b3 S.2.2.2.2.2)))))) | have S := (And.intro (cellKeep b3 (cellAl _ S.1)) (And.intro (cellKeep b3 (cellAl _ S.2.1)) (And.intro (cellKeep b3 (cellAl _ S.2.2.1)) (And.intro (cellKeep b3 (cellAl _ S.2.2.2.1)) (And.intro (cellKeep b3 (cellAl _ S.2.2.2.2.1)) (cellKeep b3 (cellAl _ S.2.2.2.2.2)))))))); have ne3_0 := blkNe S.1; have ne3_1 := blkNe S.2.2.1; (first | have HB := hide (lecB HB.out b3) | have HB := hide (lecB (belAl HB.out _) b3)); clear b3; have I3 := hide i3; clear i3))
    all_goals
      go_wp2_with fail
      go_meet
      first | exact ⟨_, rfl, HB.out.size, varNew I3.out, belAl HB.out _⟩ | exact ⟨_, rfl, bp, varSet I3.out bx0 bx1, belSet2 HB.out bp⟩
  obtain ⟨pd, rfl, hp_, hv_, hb_⟩ := hcut
  have VD := hide hv_
  replace k0 := cellKeep hb_ k0
  replace k1 := cellKeep hb_ k1
  replace k2 := cellKeep hb_ k2
  replace k3 := cellKeep hb_ k3
  replace k6 := cellKeep hb_ k6
  replace k7 := cellKeep hb_ k7
  replace HG1 := hide (HG1.out.below hb_)
  replace HG2 := hide (HG2.out.below hb_)
  replace VU := hide (VU.out.below hb_)
  replace HBW := hide (lec HBW.out hb_)
  clear S HB hp_ hv_ hb_ ne0_0 ne0_1 k4 k5 k8 k9 HG3 VR
  clear w0
  obtain ⟨w0, hw0⟩ : ∃ W', W' = wc := ⟨_, rfl⟩
  subst hw0
  go_upto_region 4 with fail
  have S := And.intro k0 (And.intro k1 (And.intro k6 (And.intro k7 (And.intro k2 k3))))
  have HB := hide (Below.refl w0.heap.size w0)
  have ne0_0 := blkNe S.1
  have ne0_1 := blkNe S.2.2.1
  go_cut [10] (fun x wx => ∃ p, x = .pointer (some ⟨p, 0, none⟩) ∧ w0.heap.size ≤ p ∧ VarI 11 wx p ((al) * (65536) - (q) * (len)) ∧ Below w0.heap.size w0 wx)
  case first =>
    have IA := HG1
    have IL := HG2
    have IU := VU
    have tok1 : True := trivial
    have tok2 : True := trivial
    have tok3 : True := trivial
    have tok4 : True := trivial
    go_region_held3 (fun w' => w'.cell? ⟨pb, 0, none⟩ = some (.bool sa) ∧ w'.cell? ⟨pb, 1, none⟩ = some (.slice aa na ca) ∧ w'.cell? ⟨pu, 0, none⟩ = some (.bool su) ∧ w'.cell? ⟨pu, 1, none⟩ = some (.slice au nu cu) ∧ w'.cell? ⟨pb, 2, none⟩ = some (.bool sl) ∧ w'.cell? ⟨pb, 3, none⟩ = some (.slice al' nl cl)) (first | (with_reducible exact S) | (with_reducible exact (by simpa only [World.cell?_drew] using S)) | (with_reducible exact t6al _ S) | (with_reducible exact (by simpa only [World.cell?_drew] using t6al _ S)) | (exact t6set S (by assumption) (by assumption) (by assumption) (by assumption) (by assumption) (by assumption)) | (exact t6set (t6set S (by assumption) (by assumption) (by assumption) (by assumption) (by assumption) (by assumption)) (by assumption) (by assumption) (by assumption) (by assumption) (by assumption) (by assumption)))
      (first
        | (go_at_call 18; have _t := tok1; clear tok1; refine (Mul_any _ sa su aa au na nu ca cu 8 2 (al) (65536) (by omega) (by first | exact IA.out.dr | exact (IA.out.al _).dr) (by first | exact IU.out.dr | exact (IU.out.al _).dr)).mono ?_; rintro e w1 ⟨s1, a1, n1, c1, rfl, i1, b1⟩; (try replace b1 := of_drew b1); (try (have bf0 := frozKeep b1 bx0 bf0; have bf1 := frozKeep b1 bx1 bf1; have bx0 := cellKeep b1 bx0; have bx1 := cellKeep b1 bx1)); (try (have bx0 := cellKeep b1 (cellNew0 w0); have bx1 := cellKeep b1 (cellNew1 w0); have bf0 := frozKeep b1 (cellNew0 w0) (frozNew w0 0); have bf1 := frozKeep b1 (cellNew1 w0) (frozNew w0 1); have bp := HB.out.size)); (first | have IA := hide (IA.out.below b1) | have IA := hide ((IA.out.al _).below b1)); (first | have IL := hide (IL.out.below b1) | have IL := hide ((IL.out.al _).below b1)); (first | have IU := hide (IU.out.below b1) | have IU := hide ((IU.out.al _).below b1)); (first | have S := (And.intro (cellKeep b1 S.1) (And.intro (cellKeep b1 S.2.1) (And.intro (cellKeep b1 S.2.2.1) (And.intro (cellKeep b1 S.2.2.2.1) (And.intro (cellKeep b1 S.2.2.2.2.1) (cellKeep b1 S.2.2.2.2.2)))))) | have S := (And.intro (cellKeep b1 (cellAl _ S.1)) (And.intro (cellKeep b1 (cellAl _ S.2.1)) (And.intro (cellKeep b1 (cellAl _ S.2.2.1)) (And.intro (cellKeep b1 (cellAl _ S.2.2.2.1)) (And.intro (cellKeep b1 (cellAl _ S.2.2.2.2.1)) (cellKeep b1 (cellAl _ S.2.2.2.2.2)))))))); have ne1_0 := blkNe S.1; have ne1_1 := blkNe S.2.2.1; (first | have HB := hide (lecB HB.out b1) | have HB := hide (lecB (belAl HB.out _) b1)); clear b1; have I1 := hide i1; clear i1)
        | (go_at_call 15; have _t := tok2; clear tok2; refine (Of_any _ (q) (by omega) (by omega)).mono ?_; rintro e w2 ⟨s2, a2, n2, c2, rfl, i2, b2⟩; (try replace b2 := of_drew b2); (try (have bf0 := frozKeep b2 bx0 bf0; have bf1 := frozKeep b2 bx1 bf1; have bx0 := cellKeep b2 bx0; have bx1 := cellKeep b2 bx1)); (try (have bx0 := cellKeep b2 (cellNew0 w1); have bx1 := cellKeep b2 (cellNew1 w1); have bf0 := frozKeep b2 (cellNew0 w1) (frozNew w1 0); have bf1 := frozKeep b2 (cellNew1 w1) (frozNew w1 1); have bp := HB.out.size)); (first | have IA := hide (IA.out.below b2) | have IA := hide ((IA.out.al _).below b2)); (first | have IL := hide (IL.out.below b2) | have IL := hide ((IL.out.al _).below b2)); (first | have IU := hide (IU.out.below b2) | have IU := hide ((IU.out.al _).below b2)); (first | have I1 := hide (I1.out.below b2) | have I1 := hide ((I1.out.al _).below b2)); (first | have S := (And.intro (cellKeep b2 S.1) (And.intro (cellKeep b2 S.2.1) (And.intro (cellKeep b2 S.2.2.1) (And.intro (cellKeep b2 S.2.2.2.1) (And.intro (cellKeep b2 S.2.2.2.2.1) (cellKeep b2 S.2.2.2.2.2)))))) | have S := (And.intro (cellKeep b2 (cellAl _ S.1)) (And.intro (cellKeep b2 (cellAl _ S.2.1)) (And.intro (cellKeep b2 (cellAl _ S.2.2.1)) (And.intro (cellKeep b2 (cellAl _ S.2.2.2.1)) (And.intro (cellKeep b2 (cellAl _ S.2.2.2.2.1)) (cellKeep b2 (cellAl _ S.2.2.2.2.2)))))))); have ne2_0 := blkNe S.1; have ne2_1 := blkNe S.2.2.1; (first | have HB := hide (lecB HB.out b2) | have HB := hide (lecB (belAl HB.out _) b2)); clear b2; have I2 := hide i2; clear i2)
        | (go_at_call 18; have _t := tok3; clear tok3; refine (Mul_any _ s2 sl a2 al' n2 nl c2 cl 2 8 (q) (len) (by omega) (by first | exact I2.out | exact I2.out.al _) (by first | exact IL.out | exact IL.out.al _)).mono ?_; rintro e w3 ⟨s3, a3, n3, c3, rfl, i3, b3⟩; (try replace b3 := of_drew b3); (try (have bf0 := frozKeep b3 bx0 bf0; have bf1 := frozKeep b3 bx1 bf1; have bx0 := cellKeep b3 bx0; have bx1 := cellKeep b3 bx1)); (try (have bx0 := cellKeep b3 (cellNew0 w2); have bx1 := cellKeep b3 (cellNew1 w2); have bf0 := frozKeep b3 (cellNew0 w2) (frozNew w2 0); have bf1 := frozKeep b3 (cellNew1 w2) (frozNew w2 1); have bp := HB.out.size)); (first | have IA := hide (IA.out.below b3) | have IA := hide ((IA.out.al _).below b3)); (first | have IL := hide (IL.out.below b3) | have IL := hide ((IL.out.al _).below b3)); (first | have IU := hide (IU.out.below b3) | have IU := hide ((IU.out.al _).below b3)); (first | have I1 := hide (I1.out.below b3) | have I1 := hide ((I1.out.al _).below b3)); (first | have I2 := hide (I2.out.below b3) | have I2 := hide ((I2.out.al _).below b3)); (first | have S := (And.intro (cellKeep b3 S.1) (And.intro (cellKeep b3 S.2.1) (And.intro (cellKeep b3 S.2.2.1) (And.intro (cellKeep b3 S.2.2.2.1) (And.intro (cellKeep b3 S.2.2.2.2.1) (cellKeep b3 S.2.2.2.2.2)))))) | have S := (And.intro (cellKeep b3 (cellAl _ S.1)) (And.intro (cellKeep b3 (cellAl _ S.2.1)) (And.intro (cellKeep b3 (cellAl _ S.2.2.1)) (And.intro (cellKeep b3 (cellAl _ S.2.2.2.1)) (And.intro (cellKeep b3 (cellAl _ S.2.2.2.2.1)) (cellKeep b3 (cellAl _ S.2.2.2.2.2)))))))); have ne3_0 := blkNe S.1; have ne3_1 := blkNe S.2.2.1; (first | have HB := hide (lecB HB.out b3) | have HB := hide (lecB (belAl HB.out _) b3)); clear b3; have I3 := hide i3; clear i3)
        | (go_at_call 60; have _t := tok4; clear tok4; refine (Sub_any _ s1 s3 a1 a3 n1 n3 c1 c3 10 10 10 ((al) * (65536)) ((q) * (len)) (by omega) (by omega) (by omega) (by first | exact I1.out | exact I1.out.al _) (by first | exact I3.out | exact I3.out.al _)).mono ?_; rintro e w4 ⟨s4, a4, n4, c4, rfl, i4, b4⟩; (try replace b4 := of_drew b4); (try (have bf0 := frozKeep b4 bx0 bf0; have bf1 := frozKeep b4 bx1 bf1; have bx0 := cellKeep b4 bx0; have bx1 := cellKeep b4 bx1)); (try (have bx0 := cellKeep b4 (cellNew0 w3); have bx1 := cellKeep b4 (cellNew1 w3); have bf0 := frozKeep b4 (cellNew0 w3) (frozNew w3 0); have bf1 := frozKeep b4 (cellNew1 w3) (frozNew w3 1); have bp := HB.out.size)); (first | have IA := hide (IA.out.below b4) | have IA := hide ((IA.out.al _).below b4)); (first | have IL := hide (IL.out.below b4) | have IL := hide ((IL.out.al _).below b4)); (first | have IU := hide (IU.out.below b4) | have IU := hide ((IU.out.al _).below b4)); (first | have I1 := hide (I1.out.below b4) | have I1 := hide ((I1.out.al _).below b4)); (first | have I2 := hide (I2.out.below b4) | have I2 := hide ((I2.out.al _).below b4)); (first | have I3 := hide (I3.out.below b4) | have I3 := hide ((I3.out.al _).below b4)); (first | have S := (And.intro (cellKeep b4 S.1) (And.intro (cellKeep b4 S.2.1) (And.intro (cellKeep b4 S.2.2.1) (And.intro (cellKeep b4 S.2.2.2.1) (And.intro (cellKeep b4 S.2.2.2.2.1) (cellKeep b4 S.2.2.2.2.2)))))) | have S := (And.intro (cellKeep b4 (cellAl _ S.1)) (And.intro (cellKeep b4 (cellAl _ S.2.1)) (And.intro (cellKeep b4 (cellAl _ S.2.2.1)) (And.intro (cellKeep b4 (cellAl _ S.2.2.2.1)) (And.intro (cellKeep b4 (cellAl _ S.2.2.2.2.1)) (cellKeep b4 (cellAl _ S.2.2.2.2.2)))))))); have ne4_0 := blkNe S.1; have ne4_1 := blkNe S.2.2.1; (first | have HB := hide (lecB HB.out b4) | have HB := hide (lecB (belAl HB.out _) b4)); clear b4; have I4 := hide i4; clear i4))
    all_goals
      go_wp2_with fail
      go_meet
      first | exact ⟨_, rfl, HB.out.size, varNew I4.out, belAl HB.out _⟩ | exact ⟨_, rfl, bp, varSet I4.out bx0 bx1, belSet2 HB.out bp⟩
  obtain ⟨pe, rfl, hp_, hv_, hb_⟩ := hcut
  have VE := hide hv_
  replace VD := hide (VD.out.below hb_)
  replace k6 := cellKeep hb_ k6
  replace k7 := cellKeep hb_ k7
  replace VU := hide (VU.out.below hb_)
  replace HBW := hide (lec HBW.out hb_)
  clear S HB hp_ hv_ hb_ ne0_0 ne0_1 k0 k1 k2 k3 HG1 HG2
  clear w0
  obtain ⟨w0, hw0⟩ : ∃ W', W' = wc := ⟨_, rfl⟩
  subst hw0
  obtain ⟨sD, aD, nD, cD, kD0, kD1, iD⟩ := VD.out
  obtain ⟨sE, aE, nE, cE, kE0, kE1, iE⟩ := VE.out
  have ID := hide iD
  have IE := hide iE
  clear iD iE VD VE
  obtain ⟨RS, hRS⟩ : ∃ x, al * 65536 - q * len = x := ⟨_, rfl⟩
  obtain ⟨DD, hDD⟩ : ∃ x, rr * len - cr * cr = x := ⟨_, rfl⟩
  rw [hRS] at IE
  rw [hDD] at ID
  have HRD := hide (And.intro hRS hDD)
  clear hRS hDD
  have hsg := fun w h => hide (Sign_any w sE aE nE cE 11 RS h)
  by_cases hneg : RS < 0
  · have g1 : decide (sgn RS < 0) = true := by simpa [sgnN_lt] using hneg
    go_wp2_with fail
    refine (hsg _ IE.out).out.mono ?_
    rintro e v5 ⟨rfl, b5⟩
    have HB5 := hide (lec HBW.out b5)
    clear b5 HBW hsg ID IE kD0 kD1 kE0 kE1 k6 k7 VU
    go_wp2
    go_ret
    refine ⟨ret_bool ?_, HB5.out⟩
    rw [HRD.out.1, Bool.eq_iff_iff]
    simp
    omega
  · have g1 : decide (sgn RS < 0) = false := by simpa [sgnN_lt] using hneg
    go_wp2_with fail
    refine (hsg _ IE.out).out.mono ?_
    rintro e v5 ⟨rfl, b5⟩
    have HB5 := hide (lec HBW.out b5)
    replace kD0 := cellKeep b5 kD0
    replace kD1 := cellKeep b5 kD1
    replace kE0 := cellKeep b5 kE0
    replace kE1 := cellKeep b5 kE1
    replace k6 := cellKeep b5 k6
    replace k7 := cellKeep b5 k7
    replace ID := hide (ID.out.below b5)
    replace IE := hide (IE.out.below b5)
    replace VU := hide (VU.out.below b5)
    clear b5 HBW hsg
    go_upto_region 7 with fail
    have S := And.intro kD0 (And.intro kD1 (And.intro k6 (And.intro k7 (And.intro kE0 kE1))))
    have HB := hide (Below.refl v5.heap.size v5)
    have IU := VU
    have tok1 : True := trivial
    have tok2 : True := trivial
    have tok3 : True := trivial
    have tok4 : True := trivial
    go_region_held3 (fun w' => w'.cell? ⟨pd, 0, none⟩ = some (.bool sD) ∧ w'.cell? ⟨pd, 1, none⟩ = some (.slice aD nD cD) ∧ w'.cell? ⟨pu, 0, none⟩ = some (.bool su) ∧ w'.cell? ⟨pu, 1, none⟩ = some (.slice au nu cu) ∧ w'.cell? ⟨pe, 0, none⟩ = some (.bool sE) ∧ w'.cell? ⟨pe, 1, none⟩ = some (.slice aE nE cE)) (first | (with_reducible exact S) | (with_reducible exact (by simpa only [World.cell?_drew] using S)) | (simp [*, go_sem, World.cell?_alloc_some]; done))
      (first
        | (go_at_call 18; have _t := tok1; clear tok1; refine (Mul_any _ su su au au nu nu cu cu 2 2 (65536) (65536) (by omega) IU.out.dr IU.out.dr).mono ?_; rintro e w1 ⟨s1, a1, n1, c1, rfl, i1, b1⟩; (try replace b1 := of_drew b1); have ID := hide (ID.out.below b1); have IU := hide (IU.out.below b1); have IE := hide (IE.out.below b1); have S := (And.intro (cellKeep b1 S.1) (And.intro (cellKeep b1 S.2.1) (And.intro (cellKeep b1 S.2.2.1) (And.intro (cellKeep b1 S.2.2.2.1) (And.intro (cellKeep b1 S.2.2.2.2.1) (cellKeep b1 S.2.2.2.2.2)))))); have HB := hide (lecB HB.out b1); clear b1; have I1 := hide i1; clear i1)
        | (go_at_call 18; have _t := tok2; clear tok2; refine (Mul_any _ sD s1 aD a1 nD n1 cD c1 17 4 (DD) ((65536) * (65536)) (by omega) ID.out I1.out).mono ?_; rintro e w2 ⟨s2, a2, n2, c2, rfl, i2, b2⟩; (try replace b2 := of_drew b2); have ID := hide (ID.out.below b2); have IU := hide (IU.out.below b2); have IE := hide (IE.out.below b2); have I1 := hide (I1.out.below b2); have S := (And.intro (cellKeep b2 S.1) (And.intro (cellKeep b2 S.2.1) (And.intro (cellKeep b2 S.2.2.1) (And.intro (cellKeep b2 S.2.2.2.1) (And.intro (cellKeep b2 S.2.2.2.2.1) (cellKeep b2 S.2.2.2.2.2)))))); have HB := hide (lecB HB.out b2); clear b2; have I2 := hide i2; clear i2)
        | (go_at_call 18; have _t := tok3; clear tok3; refine (Mul_any _ sE sE aE aE nE nE cE cE 11 11 (RS) (RS) (by omega) IE.out IE.out).mono ?_; rintro e w3 ⟨s3, a3, n3, c3, rfl, i3, b3⟩; (try replace b3 := of_drew b3); have ID := hide (ID.out.below b3); have IU := hide (IU.out.below b3); have IE := hide (IE.out.below b3); have I1 := hide (I1.out.below b3); have I2 := hide (I2.out.below b3); have S := (And.intro (cellKeep b3 S.1) (And.intro (cellKeep b3 S.2.1) (And.intro (cellKeep b3 S.2.2.1) (And.intro (cellKeep b3 S.2.2.2.1) (And.intro (cellKeep b3 S.2.2.2.2.1) (cellKeep b3 S.2.2.2.2.2)))))); have HB := hide (lecB HB.out b3); clear b3; have I3 := hide i3; clear i3)
        | (go_at_call 24; have _t := tok4; clear tok4; refine (Cmp_any _ s2 s3 a2 a3 n2 n3 c2 c3 21 22 22 ((DD) * ((65536) * (65536))) ((RS) * (RS)) (by omega) (by omega) (by omega) I2.out I3.out).mono ?_; rintro e w4 ⟨rfl, b4⟩; (try replace b4 := of_drew b4); have ID := hide (ID.out.below b4); have IU := hide (IU.out.below b4); have IE := hide (IE.out.below b4); have I1 := hide (I1.out.below b4); have I2 := hide (I2.out.below b4); have I3 := hide (I3.out.below b4); have S := (And.intro (cellKeep b4 S.1) (And.intro (cellKeep b4 S.2.1) (And.intro (cellKeep b4 S.2.2.1) (And.intro (cellKeep b4 S.2.2.2.1) (And.intro (cellKeep b4 S.2.2.2.2.1) (cellKeep b4 S.2.2.2.2.2)))))); have HB := hide (lecB HB.out b4); clear b4))
    go_wp2
    go_ret
    refine ⟨ret_bool ?_, lec HB5.out HB.out⟩
    rw [HRD.out.1, HRD.out.2, Bool.eq_iff_iff]
    have h0 : 0 ≤ RS := by omega
    simp only [decide_eq_true_eq, sgnN_le, h0, true_and]
    omega
end Go.Proofs.Qxb6500775a
