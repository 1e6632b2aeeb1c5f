import Derived.Test.Qxb6500775aSegD
import Derived.Test.Qxb6500775aDiv2
namespace Go.Proofs.Qxb6500775a
open Go.RowKit

/-- The ceiling of a division. -/
def cdiv (n d : Int) : Int := if n % d = 0 then n / d else n / d + 1
/-- What divCeilU128 returns. -/
def RetW (w : World) (x : Int) (e : Ending) (w' : World) : Prop :=
  ∃ h l, e = .returned (.agg #[.int .u64 h, .int .u64 l]) ∧ v128 h l = x ∧ Word h ∧ Word l ∧ Below w.heap.size w w'
theorem v128_lt {h l : Int} (hh : Word h) (hl : Word l) : 0 ≤ v128 h l ∧ v128 h l < 340282366920938463463374607431768211456 := by
  obtain ⟨a, b⟩ := hh; obtain ⟨c, d⟩ := hl; unfold v128; omega

set_option maxHeartbeats 2000000 in
theorem divCeil_any (w : World) (h l d : Int) (h0 : Word h) (h2 : Word l) (h4 : 2 ≤ d) (h5 : d < 18446744073709551616) :
    Calls Try.prog 82 #[.agg #[.int .u64 h, .int .u64 l], .int .u64 d] w (RetW w (cdiv (v128 h l) d)) := by
  have hv := v128_lt h0 h2
  go_enter Try.func82, Try.ntmps82
  go_wp2_with fail
  refine (divU128_any _ h l d h0 h2 (by omega) h5).mono ?_
  rintro e w1 ⟨b1, qh, ql, r, rfl, hq, hr, wq, wl⟩
  have c0 : w1.cell? ⟨w.heap.size + 1, 0, none⟩ = some (.int .u64 0) := by rw [bat b1 0 (by simp)]; simp [go_sem]
  have c1 : w1.cell? ⟨w.heap.size + 1, 1, none⟩ = some (.int .u64 0) := by rw [bat b1 1 (by simp)]; simp [go_sem]
  have f0 : w1.frozen? ⟨w.heap.size + 1, 0, none⟩ = false := by rw [batf b1 0 (by simp)]; simp [go_sem]
  have f1 : w1.frozen? ⟨w.heap.size + 1, 1, none⟩ = false := by rw [batf b1 1 (by simp)]; simp [go_sem]
  have s1 : w.heap.size + 1 < w1.heap.size := by have := b1.size; simp at this; omega
  have bw : Below w.heap.size w w1 := (((Below.refl _ _).alloc (Nat.le_refl _) _).alloc (by simp) _).trans (b1.mono (by simp <;> omega))
  have B1 := hide bw
  have HQ := hide (And.intro hq hr)
  have ne1 : ¬ w1.heap.size = w.heap.size + 1 := by omega
  clear b1 bw hq hr
  by_cases hz : r = 0
  · subst hz
    go_wp2
    refine bodyPost_ret (v := .agg #[.int .u64 qh, .int .u64 ql]) (by simp [results, Try.results82, go_sem, c0, c1, s1]) rfl ⟨qh, ql, rfl, ?_, wq, wl, ?_⟩
    · rw [HQ.out.1, cdiv, if_pos HQ.out.2.symm]
    · exact ((B1.out.setCell (by simp) _).setCell (by simp) _).alloc (by have := B1.out.size; simp; omega) _
  · have hne : (r != 0) = true := by simp [hz]
    go_wp2_with fail
    refine (addU128_any _ qh ql 0 1 wq wl ⟨by omega, by omega⟩ ⟨by omega, by omega⟩).mono ?_
    rintro e w2 ⟨gh, gl, o, rfl, ho, wgh, wgl, b2⟩
    have d0 : w2.cell? ⟨w1.heap.size, 0, none⟩ = some (.int .u64 qh) := by rw [bat b2 0 (by simp)]; simp [go_sem]
    have d1 : w2.cell? ⟨w1.heap.size, 1, none⟩ = some (.int .u64 ql) := by rw [bat b2 1 (by simp)]; simp [go_sem]
    have k0 : w2.frozen? ⟨w1.heap.size, 0, none⟩ = false := by rw [batf b2 0 (by simp)]; simp [go_sem]
    have k1 : w2.frozen? ⟨w1.heap.size, 1, none⟩ = false := by rw [batf b2 1 (by simp)]; simp [go_sem]
    have c0' : w2.cell? ⟨w.heap.size + 1, 0, none⟩ = some (.int .u64 0) := by rw [bat b2 0 (by simp; omega)]; simp [go_sem, c0, s1]
    have c1' : w2.cell? ⟨w.heap.size + 1, 1, none⟩ = some (.int .u64 0) := by rw [bat b2 1 (by simp; omega)]; simp [go_sem, c1, s1]
    have f0' : w2.frozen? ⟨w.heap.size + 1, 0, none⟩ = false := by rw [batf b2 0 (by simp; omega)]; simp [go_sem, f0, s1]
    have f1' : w2.frozen? ⟨w.heap.size + 1, 1, none⟩ = false := by rw [batf b2 1 (by simp; omega)]; simp [go_sem, f1, s1]
    have B2 := hide ((B1.out.alloc B1.out.size _).trans (b2.mono (by have := B1.out.size; simp; omega)))
    clear b2 c0 c1 f0 f1
    have ho' : v128 gh gl = cdiv (v128 h l) d := by
      have hb := v128_lt wgh wgl
      have hq0 : 0 ≤ v128 h l / d := Int.ediv_nonneg hv.1 (by omega)
      have hq1 : v128 h l / d * 2 ≤ v128 h l := by
        have m1 := Int.ediv_mul_le (v128 h l) (show d ≠ 0 by omega)
        have m2 := Int.mul_le_mul_of_nonneg_left h4 hq0
        omega
      rw [HQ.out.1] at ho
      rw [cdiv, if_neg (by rw [← HQ.out.2]; exact hz)]
      have e1 : v128 0 1 = 1 := by unfold v128; omega
      rw [e1] at ho
      cases o <;> simp at ho <;> omega
    have HO := hide ho'
    clear ho ho'
    go_wp2
    refine bodyPost_ret (v := .agg #[.int .u64 gh, .int .u64 gl]) (by simp [results, Try.results82, go_sem, c0', c1']) rfl ⟨gh, gl, rfl, HO.out, wgh, wgl, ?_⟩
    have sz := B1.out.size
    exact (((B2.out.setCell (by simpa using sz) _).setCell (by simpa using sz) _).setCell (by simp) _).setCell (by simp) _
/-- The squared distance, rounded up. -/
theorem fld1_u (x y : Int) (w : World) : (Instr.field 108 (.agg #[.int .u64 x, .int .u64 y]) 1).run Try.prog w = .ok (.int .u64 y) w := by kernel_rfl
def farV (al len cr st en : Int) : Int := if al ≤ 0 then st else if len ≤ al then en else cdiv (cr * cr) len
theorem cdiv_le {n d m : Int} (hd : 0 < d) : cdiv n d ≤ m ↔ n ≤ m * d := by
  have dm := Int.mul_ediv_add_emod n d
  have r0 := Int.emod_nonneg n (show d ≠ 0 by omega)
  have r1 := Int.emod_lt_of_pos n hd
  unfold cdiv
  generalize n / d = q at *
  generalize n % d = r at *
  split
  · rename_i hz
    subst hz
    constructor
    · intro h
      have := Int.mul_le_mul_of_nonneg_left h (Int.le_of_lt hd)
      rw [Int.mul_comm m d]; omega
    · intro h
      have : d * q ≤ d * m := by rw [Int.mul_comm d m]; omega
      exact Int.le_of_mul_le_mul_left this hd
  · rename_i hz
    constructor
    · intro h
      have := Int.mul_le_mul_of_nonneg_left (show q + 1 ≤ m from h) (Int.le_of_lt hd)
      rw [Int.mul_add, Int.mul_one] at this
      rw [Int.mul_comm m d]; omega
    · intro h
      have : d * q < d * m := by rw [Int.mul_comm d m]; omega
      have := Int.lt_of_mul_lt_mul_left this (Int.le_of_lt hd)
      omega
theorem cdiv_nonneg {n d : Int} (hn : 0 ≤ n) (hd : 0 < d) : 0 ≤ cdiv n d := by
  have := Int.ediv_nonneg hn (Int.le_of_lt hd)
  unfold cdiv; split <;> omega
/-- SegDisc's answer and SegDistSq's: the same test. -/
theorem far_le {al len cr st en r : Int} (hl : 0 ≤ len) : decide (farV al len cr st en ≤ r * r) = meetsB al len cr st en r := by
  unfold farV meetsB
  split
  · rfl
  split
  · rfl
  · rw [Bool.eq_iff_iff]
    simp only [decide_eq_true_eq]
    exact cdiv_le (by omega)

set_option maxRecDepth 100000 in
set_option maxHeartbeats 2000000 in
theorem SegDistSq_in (w : World) (a b c d e f : Int) (h : inB6 a b c d e f = true) :
    Calls Try.prog 34 #[.int .i64 a, .int .i64 b, .int .i64 c, .int .i64 d, .int .i64 e, .int .i64 f] w fun x w' => x = .returned (.tuple #[.int .i64 (farV ((e - a) * (c - a) + (f - b) * (d - b)) ((c - a) * (c - a) + (d - b) * (d - b)) ((c - a) * (f - b) - (d - b) * (e - a)) ((e - a) * (e - a) + (f - b) * (f - b)) ((e - a - (c - a)) * (e - a - (c - a)) + (f - b - (d - b)) * (f - b - (d - b)))), .int .i64 0]) ∧ Below w.heap.size w w' := by
  obtain ⟨ha, hb, hc, hd, he, hf⟩ := inB6_true h
  have V := view_any w a b c d e f (by omega) (by omega) (by omega) (by omega)
  have L := lagrange (c - a) (d - b) (e - a) (f - b)
  have k1 := mul_bd (x := c - a) (y := f - b) (by omega) (by omega) (by omega) (by omega)
  have k2 := mul_bd (x := d - b) (y := e - a) (by omega) (by omega) (by omega) (by omega)
  have m1 := sq_bd (x := c - a) (by omega) (by omega)
  have m2 := sq_bd (x := d - b) (by omega) (by omega)
  have m3 := sq_bd (x := e - a) (by omega) (by omega)
  have m4 := sq_bd (x := f - b) (by omega) (by omega)
  have aq := sq_nonneg' ((e - a) * (c - a) + (f - b) * (d - b))
  obtain ⟨al, eal⟩ : ∃ x, x = (e - a) * (c - a) + (f - b) * (d - b) := ⟨_, rfl⟩
  obtain ⟨len, elen⟩ : ∃ x, x = (c - a) * (c - a) + (d - b) * (d - b) := ⟨_, rfl⟩
  obtain ⟨cc, ecc⟩ : ∃ x, x = ((c - a) * (f - b) - (d - b) * (e - a)) * ((c - a) * (f - b) - (d - b) * (e - a)) := ⟨_, rfl⟩
  have hcc : 0 ≤ cc := by rw [ecc]; exact sq_nonneg' _
  have hlen : 0 ≤ len ∧ len ≤ 35184372088832 := by omega
  have hst : 0 ≤ (e - a) * (e - a) + (f - b) * (f - b) ∧ (e - a) * (e - a) + (f - b) * (f - b) ≤ 35184372088832 := by omega
  have hLs : cc ≤ ((e - a) * (e - a) + (f - b) * (f - b)) * len := by
    rw [← ecc, ← elen, Int.mul_comm len] at L
    omega
  have hw : cc < 340282366920938463463374607431768211456 := by
    have := Int.mul_le_mul hst.2 hlen.2 hlen.1 (by omega)
    omega
  have HF : Hid (∀ x, farV al len ((c - a) * (f - b) - (d - b) * (e - a)) ((e - a) * (e - a) + (f - b) * (f - b)) ((e - a - (c - a)) * (e - a - (c - a)) + (f - b - (d - b)) * (f - b - (d - b))) = x ↔ (if al ≤ 0 then (e - a) * (e - a) + (f - b) * (f - b) else if len ≤ al then (e - a - (c - a)) * (e - a - (c - a)) + (f - b - (d - b)) * (f - b - (d - b)) else cdiv cc len) = x) := fun x => by rw [ecc]; exact Iff.rfl
  rw [← eal, ← elen] at V
  rw [← eal, ← elen]
  have HV := hide V
  have HCC := hide ecc
  have HL := hide hLs
  clear V L aq eal elen ecc hLs m1 m2 m3 m4
  by_cases c1 : al ≤ 0
  · have hn : near al len = 0 := by rw [near, if_pos c1]
    rw [(HF.out _).2 (if_pos c1)]
    go_enter Try.func34, Try.ntmps34
    go_wp2_with fail
    refine (allInMap_any _ a b c d e f).mono ?_
    rintro x w' ⟨rfl, rfl⟩
    rw [h]
    go_wp2_with fail
    refine HV.out.mono ?_
    rintro x w1 ⟨rfl, b1⟩
    have B1 := hide b1
    clear b1
    go_wp2_with fail
    refine (nearest_any _ (c - a) (d - b) (e - a) (f - b) al len).mono ?_
    rintro x w2 ⟨rfl, b2⟩
    rw [hn]
    obtain ⟨t0, t1, t2, t3, t4, t5⟩ := view6 b2
    have B2 := hide (lecB (belAl B1.out _) b2)
    clear b2
    go_wp2_with fail
    refine (startSq_any _ (c - a) (d - b) (e - a) (f - b) al len (by omega) (by omega)).mono ?_
    rintro x w3 ⟨rfl, b3⟩
    have B3 := hide (lecB B2.out b3)
    clear b3
    go_wp2
    go_ret2
    exact ⟨rfl, B3.out⟩
  by_cases c2 : len ≤ al
  · have hn : near al len = 1 := by rw [near, if_neg c1, if_pos c2]
    rw [(HF.out _).2 ((if_neg c1).trans (if_pos c2))]
    go_enter Try.func34, Try.ntmps34
    go_wp2_with fail
    refine (allInMap_any _ a b c d e f).mono ?_
    rintro x w' ⟨rfl, rfl⟩
    rw [h]
    go_wp2_with fail
    refine HV.out.mono ?_
    rintro x w1 ⟨rfl, b1⟩
    have B1 := hide b1
    clear b1
    go_wp2_with fail
    refine (nearest_any _ (c - a) (d - b) (e - a) (f - b) al len).mono ?_
    rintro x w2 ⟨rfl, b2⟩
    rw [hn]
    obtain ⟨t0, t1, t2, t3, t4, t5⟩ := view6 b2
    have B2 := hide (lecB (belAl B1.out _) b2)
    clear b2
    go_wp2_with fail
    refine (endSq_any _ (c - a) (d - b) (e - a) (f - b) al len (by omega) (by omega)).mono ?_
    rintro x w3 ⟨rfl, b3⟩
    have B3 := hide (lecB B2.out b3)
    clear b3
    go_wp2
    go_ret2
    exact ⟨rfl, B3.out⟩
  · have hn : near al len = 2 := by rw [near, if_neg c1, if_neg c2]
    rw [(HF.out _).2 ((if_neg c1).trans (if_neg c2))]
    have q1 : cdiv cc len ≤ (e - a) * (e - a) + (f - b) * (f - b) := (cdiv_le (by omega)).2 HL.out
    have q0 : 0 ≤ cdiv cc len := cdiv_nonneg hcc (by omega)
    have W1 := hide (words_parts hcc hw)
    clear HF
    have HF : Hid (∀ gh gl : Int, Word gh → Word gl → v128 gh gl = cdiv (v128 (hi64 cc) (lo64 cc)) len → gh = 0 ∧ gl = cdiv cc len) := by
      intro gh gl wh wl e
      rw [v128_parts] at e
      obtain ⟨x0, x1⟩ := wh
      obtain ⟨y0, y1⟩ := wl
      unfold v128 at e
      omega
    obtain ⟨fr, efr⟩ : ∃ x, x = cdiv cc len := ⟨_, rfl⟩
    rw [← efr] at HF q0 q1 ⊢
    clear efr
    have WF : Hid (IntKind.i64.wrap fr = fr) := IntWalk.i64_in _ ⟨by omega, by omega⟩
    have WL : Hid (IntKind.u64.wrap len = len) := IntWalk.u64_in _ ⟨by omega, by omega⟩
    go_enter Try.func34, Try.ntmps34
    go_wp2_with fail
    refine (allInMap_any _ a b c d e f).mono ?_
    rintro x w' ⟨rfl, rfl⟩
    rw [h]
    go_wp2_with fail
    refine HV.out.mono ?_
    rintro x w1 ⟨rfl, b1⟩
    have B1 := hide b1
    clear b1
    go_wp2_with fail
    refine (nearest_any _ (c - a) (d - b) (e - a) (f - b) al len).mono ?_
    rintro x w2 ⟨rfl, b2⟩
    rw [hn]
    obtain ⟨t0, t1, t2, t3, t4, t5⟩ := view6 b2
    have B3 := hide (lecB (belAl B1.out _) b2)
    clear b2
    generalize w1.heap.size = p4 at *
    go_upto_region 9 with fail
    have S := And.intro t0 (And.intro t1 (And.intro t2 (And.intro t3 (And.intro t4 t5))))
    clear t0 t1 t2 t3 t4 t5
    have hfl := fld1_u
    have cs := fun w => crossSq_w w (c - a) (d - b) (e - a) (f - b) al len (by omega) (by omega) (by omega) (by omega)
    rw [← HCC.out] at cs
    have CS := hide cs
    clear cs
    have tok1 : True := trivial
    have tok2 : True := trivial
    go_region_held3 (fun w' => w'.cell? ⟨p4, 0, none⟩ = some (.int .i64 (c - a)) ∧ w'.cell? ⟨p4, 1, none⟩ = some (.int .i64 (d - b)) ∧ w'.cell? ⟨p4, 2, none⟩ = some (.int .i64 (e - a)) ∧ w'.cell? ⟨p4, 3, none⟩ = some (.int .i64 (f - b)) ∧ w'.cell? ⟨p4, 4, none⟩ = some (.int .i64 al) ∧ w'.cell? ⟨p4, 5, none⟩ = some (.int .i64 len)) (first | (with_reducible exact S) | (with_reducible exact (by simpa only [World.cell?_drew] using S)) | (simp [*, go_sem, World.cell?_alloc_some]; done))
      (first
        | (go_at_call 83; have _t := tok1; clear tok1; refine (CS.out _).mono ?_; rintro e w1 ⟨rfl, b1⟩; (try replace b1 := of_drew b1); have S := (And.intro (cellKeep b1 S.1) (And.intro (cellKeep b1 S.2.1) (And.intro (cellKeep b1 S.2.2.1) (And.intro (cellKeep b1 S.2.2.2.1) (And.intro (cellKeep b1 S.2.2.2.2.1) (cellKeep b1 S.2.2.2.2.2)))))); have B3 := hide (lecB B3.out b1); clear b1)
        | (go_at_call 82; have _t := tok2; clear tok2; rw [WL.out]; refine (divCeil_any _ (hi64 cc) (lo64 cc) len W1.out.1 W1.out.2 (by omega) (by omega)).mono ?_; rintro e w2 ⟨gh, gl, rfl, hv, wgh, wgl, b2⟩; obtain ⟨rfl, rfl⟩ := HF.out gh gl wgh wgl hv; clear hv; (try replace b2 := of_drew b2); have S := (And.intro (cellKeep b2 S.1) (And.intro (cellKeep b2 S.2.1) (And.intro (cellKeep b2 S.2.2.1) (And.intro (cellKeep b2 S.2.2.2.1) (And.intro (cellKeep b2 S.2.2.2.2.1) (cellKeep b2 S.2.2.2.2.2)))))); have B3 := hide (lecB B3.out b2); clear b2))
    rw [WF.out]
    go_wp2
    go_ret2
    exact ⟨rfl, B3.out⟩
end Go.Proofs.Qxb6500775a
