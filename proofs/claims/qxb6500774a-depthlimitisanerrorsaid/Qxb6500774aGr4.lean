import Derived.Test.Qxb6500774aGr2
namespace Go.Proofs.Qxb6500774a
open Go.RowKit

section
variable {B p : Nat} {a : Option Addr} {cp : Nat} {s : List Int}
theorem XB.put0 {w : World} {r : Nat} {e : Xp} (h : XB w r e) (y : Int) : XB (w.setCell ⟨r, 0, none⟩ (.int .i64 y)) r { e with k := y } := by
  refine ⟨?_, ?_, ?_, ?_, ?_, ?_, ?_, fun j => (set_frozen _ _ _ _).trans (h.fz j)⟩
  all_goals simp [go_sem, h.c0, h.c1, h.c2, h.c3, h.c4, h.c5, h.c6]
theorem XB.put1 {w : World} {r : Nat} {e : Xp} (h : XB w r e) (y : ByteArray) : XB (w.setCell ⟨r, 1, none⟩ (.string y)) r { e with x := y } := by
  refine ⟨?_, ?_, ?_, ?_, ?_, ?_, ?_, fun j => (set_frozen _ _ _ _).trans (h.fz j)⟩
  all_goals simp [go_sem, h.c0, h.c1, h.c2, h.c3, h.c4, h.c5, h.c6]
theorem XB.put4 {w : World} {r : Nat} {e : Xp} (h : XB w r e) (y : Option Addr) (l c : Nat) : XB (w.setCell ⟨r, 4, none⟩ (.slice y l c)) r { e with q := y, ql := l, qc := c } := by
  refine ⟨?_, ?_, ?_, ?_, ?_, ?_, ?_, fun j => (set_frozen _ _ _ _).trans (h.fz j)⟩
  all_goals simp [go_sem, h.c0, h.c1, h.c2, h.c3, h.c4, h.c5, h.c6]
set_option maxRecDepth 100000 in
set_option maxHeartbeats 4000000 in
/-- parser.operand at a name -/
theorem operand_place {w : World} {d : Int} {t : Tk} {L : List Tk} {Q : World → Prop} (hk : t.k = 2) (hat : At B p a cp s w d (t :: L))
    (hQ : ∀ w2, At B p a cp s w2 d (t :: L) → Calls Try.prog 93 #[.pointer (some ⟨p, 0, none⟩)] w2 (RetX p w2 Q)) (hQx : ∀ w1 w2, Q w1 → B ≤ w1.heap.size → ∀ S : Nat → Prop, Ex S w1 w2 → (∀ k, S k → B ≤ k) → Q w2) :
    Calls Try.prog 77 #[.pointer (some ⟨p, 0, none⟩)] w (RetX p w Q) := by
  obtain ⟨o, hps, hst⟩ := hat
  have hat0 : At B p a cp s w d (t :: L) := ⟨o, hps, hst⟩
  have hb : B ≤ w.heap.size ∧ p < B := ⟨hps.hB, hps.hp⟩
  have H0 := hide hat0
  have hps1 := hps.new (.cells #[.int .i64 0, .string ⟨#[]⟩, .int .i64 0, .string ⟨#[]⟩, .slice none 0 0, .int .i64 0, .int .i64 0] 47)
  have c6 := hps1.c6
  have c8 := hps1.c8
  have c9 := hps1.c9
  have hpl : p < w.heap.size := World.block_lt_of_cell? _ _ hps.c4
  have hpl1 : p < (w.alloc (.cells #[.int .i64 0, .string ⟨#[]⟩, .int .i64 0, .string ⟨#[]⟩, .slice none 0 0, .int .i64 0, .int .i64 0] 47)).heap.size := by simp; omega
  clear hat0 hps hst
  go_enter Try.func77, Try.ntmps77
  go_upto_region 1 with fail
  have hr0 := (XB.new w ⟨0, ⟨#[]⟩, 0, ⟨#[]⟩, none, 0, 0, 0, 0⟩).keep (S := fun _ => False) (((Ex.refl _ _).alloc (.cells #[.int .i64 0, .string ⟨#[]⟩, .int .i64 t.v, .string ⟨#[]⟩, .slice none 0 0, .int .i64 t.l, .int .i64 t.c] 47)).drew) (fun e => e)
  have hr1 := (XB.new (w.alloc (.cells #[.int .i64 0, .string ⟨#[]⟩, .int .i64 0, .string ⟨#[]⟩, .slice none 0 0, .int .i64 0, .int .i64 0] 47)) ⟨0, ⟨#[]⟩, t.v, ⟨#[]⟩, none, 0, 0, t.l, t.c⟩).keep (S := fun _ => False) ((Ex.refl _ _).drew) (fun e => e)
  rw [show (w.alloc (.cells #[.int .i64 0, .string ⟨#[]⟩, .int .i64 0, .string ⟨#[]⟩, .slice none 0 0, .int .i64 0, .int .i64 0] 47)).heap.size = w.heap.size + 1 by simp] at hr1
  have HE2 : Hid (Ex (fun k => k = p) w ((w.alloc (.cells #[.int .i64 0, .string ⟨#[]⟩, .int .i64 0, .string ⟨#[]⟩, .slice none 0 0, .int .i64 0, .int .i64 0] 47)).alloc (.cells #[.int .i64 0, .string ⟨#[]⟩, .int .i64 t.v, .string ⟨#[]⟩, .slice none 0 0, .int .i64 t.l, .int .i64 t.c] 47)).drew) := (((Ex.refl _ _).alloc _).alloc _).drew
  have hat2 := H0.out.ex (S := fun _ => False) ((((Ex.refl _ w).alloc (.cells #[.int .i64 0, .string ⟨#[]⟩, .int .i64 0, .string ⟨#[]⟩, .slice none 0 0, .int .i64 0, .int .i64 0] 47)).alloc (.cells #[.int .i64 0, .string ⟨#[]⟩, .int .i64 t.v, .string ⟨#[]⟩, .slice none 0 0, .int .i64 t.l, .int .i64 t.c] 47)).drew) (fun _ e => e.elim)
  go_region
  generalize ((w.alloc (.cells #[.int .i64 0, .string ⟨#[]⟩, .int .i64 0, .string ⟨#[]⟩, .slice none 0 0, .int .i64 0, .int .i64 0] 47)).alloc (.cells #[.int .i64 0, .string ⟨#[]⟩, .int .i64 t.v, .string ⟨#[]⟩, .slice none 0 0, .int .i64 t.l, .int .i64 t.c] 47)).drew = w2 at *
  have HB0 : Hid (B ≤ w.heap.size) := hb.1
  obtain ⟨r0, hr0e⟩ : ∃ r, w.heap.size = r := ⟨_, rfl⟩
  have HRR : Hid (w.heap.size ≤ r0) := by rw [hr0e]; exact Nat.le_refl _
  rw [hr0e] at hr0 hr1 HB0 hpl ⊢
  clear hr0e c6 c8 c9 hpl1 hps1 H0
  have hb0 := HB0.out
  have HR0 := hide hr0
  have HR1 := hide hr1
  have HAT := hide hat2
  obtain ⟨o2, hps2, hst2⟩ := id hat2
  have c4 := hps2.c4
  have HPS := hide hps2
  clear hr0 hr1 hat2 hps2 hst2
  have HC := hide (hQ w2 HAT.out)
  have HQX := hide hQx
  rw [hk] at c4
  clear hQ hQx
  go_upto_region 5 with fail
  go_wp2_with fail
  refine (HC.out).mono ?_
  rintro e w3 ⟨v, rfl, hex, hq⟩
  have HR3 := hide (HR0.out.keep hex (by omega))
  have HE3 := hide (HE2.out.trans hex)
  have HQ : Hid (∀ w4 S, Ex S w3 w4 → (∀ k, S k → B ≤ k) → Q w4) := fun w4 S e hS => HQX.out w3 w4 hq (by have := HE3.out.size; have := HRR.out; have := HB0.out; have := World.block_lt_of_cell? _ _ HR3.out.c0; have h2 : r0 < w3.heap.size := this; omega) S e hS
  clear hex hq HR0 HR1 HE2 HAT HC HQX c4
  unfold xpV
  simp only []
  have R0 := HR3.out.c0
  have R1 := HR3.out.c1
  have R2 := HR3.out.c2
  have R3 := HR3.out.c3
  have R4 := HR3.out.c4
  have R5 := HR3.out.c5
  have R6 := HR3.out.c6
  have RF0 := HR3.out.fz 0
  have RF1 := HR3.out.fz 1
  have RF2 := HR3.out.fz 2
  have RF3 := HR3.out.fz 3
  have RF4 := HR3.out.fz 4
  have RF5 := HR3.out.fz 5
  have RF6 := HR3.out.fz 6
  have HQF := fun (y0 y1 y2 y3 y4 y5 y6 : Value) => hide (HQ.out _ _ ((((((((Ex.refl (fun k => k = r0) _).set (p := r0) (j := 0) rfl y0).set (p := r0) (j := 1) rfl y1).set (p := r0) (j := 2) rfl y2).set (p := r0) (j := 3) rfl y3).set (p := r0) (j := 4) rfl y4).set (p := r0) (j := 5) rfl y5).set (p := r0) (j := 6) rfl y6) (fun k e => e ▸ HB0.out))
  have HEF := fun (y0 y1 y2 y3 y4 y5 y6 : Value) => hide (((((((HE3.out.setNew (p := r0) (j := 0) HRR.out y0).setNew (p := r0) (j := 1) HRR.out y1).setNew (p := r0) (j := 2) HRR.out y2).setNew (p := r0) (j := 3) HRR.out y3).setNew (p := r0) (j := 4) HRR.out y4).setNew (p := r0) (j := 5) HRR.out y5).setNew (p := r0) (j := 6) HRR.out y6)
  go_wp2
  exact bodyPost_ret (v := xpV v) (by simp [results, Try.results77, go_sem, xpV, R0, R1, R2, R3, R4, R5, R6]) rfl ⟨v, rfl, (HEF _ _ _ _ _ _ _).out, (HQF _ _ _ _ _ _ _).out⟩
set_option maxRecDepth 100000 in
set_option maxHeartbeats 4000000 in
/-- parser.operand at a number -/
theorem operand_num {w : World} {d : Int} {t u : Tk} {M : List Tk} (hk : t.k = 3) (hat : At B p a cp s w d (t :: u :: M)) :
    Calls Try.prog 77 #[.pointer (some ⟨p, 0, none⟩)] w (RetX p w fun w' => At B p a cp s w' d (u :: M)) := by
  obtain ⟨L, hL⟩ : ∃ L, u :: M = L := ⟨_, rfl⟩
  rw [hL] at hat
  have HL := hide hL
  clear hL
  obtain ⟨o, hps, hst⟩ := hat
  have hat0 : At B p a cp s w d (t :: L) := ⟨o, hps, hst⟩
  have hb : B ≤ w.heap.size ∧ p < B := ⟨hps.hB, hps.hp⟩
  have H0 := hide hat0
  have hps1 := hps.new (.cells #[.int .i64 0, .string ⟨#[]⟩, .int .i64 0, .string ⟨#[]⟩, .slice none 0 0, .int .i64 0, .int .i64 0] 47)
  have c6 := hps1.c6
  have c8 := hps1.c8
  have c9 := hps1.c9
  have hpl : p < w.heap.size := World.block_lt_of_cell? _ _ hps.c4
  have hpl1 : p < (w.alloc (.cells #[.int .i64 0, .string ⟨#[]⟩, .int .i64 0, .string ⟨#[]⟩, .slice none 0 0, .int .i64 0, .int .i64 0] 47)).heap.size := by simp; omega
  clear hat0 hps hst
  go_enter Try.func77, Try.ntmps77
  go_upto_region 1 with fail
  have hr0 := (XB.new w ⟨0, ⟨#[]⟩, 0, ⟨#[]⟩, none, 0, 0, 0, 0⟩).keep (S := fun _ => False) (((Ex.refl _ _).alloc (.cells #[.int .i64 0, .string ⟨#[]⟩, .int .i64 t.v, .string ⟨#[]⟩, .slice none 0 0, .int .i64 t.l, .int .i64 t.c] 47)).drew) (fun e => e)
  have hr1 := (XB.new (w.alloc (.cells #[.int .i64 0, .string ⟨#[]⟩, .int .i64 0, .string ⟨#[]⟩, .slice none 0 0, .int .i64 0, .int .i64 0] 47)) ⟨0, ⟨#[]⟩, t.v, ⟨#[]⟩, none, 0, 0, t.l, t.c⟩).keep (S := fun _ => False) ((Ex.refl _ _).drew) (fun e => e)
  rw [show (w.alloc (.cells #[.int .i64 0, .string ⟨#[]⟩, .int .i64 0, .string ⟨#[]⟩, .slice none 0 0, .int .i64 0, .int .i64 0] 47)).heap.size = w.heap.size + 1 by simp] at hr1
  have HE2 : Hid (Ex (fun k => k = p) w ((w.alloc (.cells #[.int .i64 0, .string ⟨#[]⟩, .int .i64 0, .string ⟨#[]⟩, .slice none 0 0, .int .i64 0, .int .i64 0] 47)).alloc (.cells #[.int .i64 0, .string ⟨#[]⟩, .int .i64 t.v, .string ⟨#[]⟩, .slice none 0 0, .int .i64 t.l, .int .i64 t.c] 47)).drew) := (((Ex.refl _ _).alloc _).alloc _).drew
  have hat2 := H0.out.ex (S := fun _ => False) ((((Ex.refl _ w).alloc (.cells #[.int .i64 0, .string ⟨#[]⟩, .int .i64 0, .string ⟨#[]⟩, .slice none 0 0, .int .i64 0, .int .i64 0] 47)).alloc (.cells #[.int .i64 0, .string ⟨#[]⟩, .int .i64 t.v, .string ⟨#[]⟩, .slice none 0 0, .int .i64 t.l, .int .i64 t.c] 47)).drew) (fun _ e => e.elim)
  go_region
  generalize ((w.alloc (.cells #[.int .i64 0, .string ⟨#[]⟩, .int .i64 0, .string ⟨#[]⟩, .slice none 0 0, .int .i64 0, .int .i64 0] 47)).alloc (.cells #[.int .i64 0, .string ⟨#[]⟩, .int .i64 t.v, .string ⟨#[]⟩, .slice none 0 0, .int .i64 t.l, .int .i64 t.c] 47)).drew = w2 at *
  have HB0 : Hid (B ≤ w.heap.size) := hb.1
  obtain ⟨r0, hr0e⟩ : ∃ r, w.heap.size = r := ⟨_, rfl⟩
  have HRR : Hid (w.heap.size ≤ r0) := by rw [hr0e]; exact Nat.le_refl _
  rw [hr0e] at hr0 hr1 HB0 hpl ⊢
  clear hr0e c6 c8 c9 hpl1 hps1 H0
  have hb0 := HB0.out
  have HR0 := hide hr0
  have HR1 := hide hr1
  have HAT := hide hat2
  obtain ⟨o2, hps2, hst2⟩ := id hat2
  have c4 := hps2.c4
  have HPS := hide hps2
  clear hr0 hr1 hat2 hps2 hst2
  have hk5 : (t.k == 5) = false := by rw [hk]; rfl
  have I1 : isM t ⟨#[78, 79, 84]⟩ = false := by simp only [isM, hk5, Bool.false_and]
  have I2 : isM t ⟨#[45]⟩ = false := by simp only [isM, hk5, Bool.false_and]
  have I3 : isM t ⟨#[40]⟩ = false := by simp only [isM, hk5, Bool.false_and]
  rw [hk] at c4
  have HK := hide hk
  have HI := hide (And.intro I1 (And.intro I2 I3))
  clear hk5 I1 I2 I3 hk
  have q0 := HR1.out.c0
  have qf0 := HR1.out.fz 0
  go_upto_region 24 with (go_at_call 72; refine (at_is HPS.out _ _ rfl).mono ?_; rintro e wq ⟨rfl, rfl⟩; simp only [HI.out.1, HI.out.2.1, HI.out.2.2])
  have hs3 := (Ex.refl (fun k => k = r0 + 1) w2).set (p := r0 + 1) (j := 0) rfl (.int .i64 0)
  have hr1 := HR1.out.put0 0
  have hr0 := HR0.out.keep hs3 (by omega)
  have he3 := HE2.out.trans2 hs3 (fun j e => .inr (by have := HRR.out; omega))
  have hat3 := HAT.out.ex hs3 (fun k e => by omega)
  have k4 := (HPS.out.ex hs3 (fun k e => by omega)).c4
  rw [HK.out] at k4
  generalize w2.setCell ⟨r0 + 1, 0, none⟩ (.int .i64 0) = w3 at *
  rw [← HL.out] at hat3
  have HT := hide (take_yes _ hat3)
  rw [HK.out] at HT
  have HR13 := hide hr1
  have HR03 := hide hr0
  have HE3 := hide he3
  clear hs3 hr1 hr0 he3 hat3 HR1 HR0 HE2 HAT HPS c4 q0 qf0
  go_wp2_with fail
  refine (HT.out).mono ?_
  rintro e w4 ⟨rfl, hex, hat⟩
  have HR14 := hide (HR13.out.keep hex (by omega))
  have HR04 := hide (HR03.out.keep hex (by omega))
  have HE4 := hide (HE3.out.trans hex)
  have HAT := hide hat
  clear hex hat HR13 HR03 HE3 HT k4
  unfold tokV
  simp only []
  have R0 := HR04.out.c0
  have R1 := HR04.out.c1
  have R2 := HR04.out.c2
  have R3 := HR04.out.c3
  have R4 := HR04.out.c4
  have R5 := HR04.out.c5
  have R6 := HR04.out.c6
  have RF0 := HR04.out.fz 0
  have RF1 := HR04.out.fz 1
  have RF2 := HR04.out.fz 2
  have RF3 := HR04.out.fz 3
  have RF4 := HR04.out.fz 4
  have RF5 := HR04.out.fz 5
  have RF6 := HR04.out.fz 6
  have T0 := HR14.out.c0
  have T1 := HR14.out.c1
  have T2 := HR14.out.c2
  have T3 := HR14.out.c3
  have T4 := HR14.out.c4
  have T5 := HR14.out.c5
  have T6 := HR14.out.c6
  have HQF := fun (y0 y1 y2 y3 y4 y5 y6 : Value) => hide (HAT.out.ex ((((((((Ex.refl (fun k => k = r0) _).set (p := r0) (j := 0) rfl y0).set (p := r0) (j := 1) rfl y1).set (p := r0) (j := 2) rfl y2).set (p := r0) (j := 3) rfl y3).set (p := r0) (j := 4) rfl y4).set (p := r0) (j := 5) rfl y5).set (p := r0) (j := 6) rfl y6) (fun k e => e ▸ HB0.out))
  have HEF := fun (y0 y1 y2 y3 y4 y5 y6 : Value) => hide (((((((HE4.out.setNew (p := r0) (j := 0) HRR.out y0).setNew (p := r0) (j := 1) HRR.out y1).setNew (p := r0) (j := 2) HRR.out y2).setNew (p := r0) (j := 3) HRR.out y3).setNew (p := r0) (j := 4) HRR.out y4).setNew (p := r0) (j := 5) HRR.out y5).setNew (p := r0) (j := 6) HRR.out y6)
  go_wp2
  exact bodyPost_ret (v := xpV ⟨0, ⟨#[]⟩, t.v, ⟨#[]⟩, none, 0, 0, t.l, t.c⟩) (by simp [results, Try.results77, go_sem, xpV, R0, R1, R2, R3, R4, R5, R6]) rfl ⟨⟨0, ⟨#[]⟩, t.v, ⟨#[]⟩, none, 0, 0, t.l, t.c⟩, rfl, (HEF _ _ _ _ _ _ _).out, (HQF _ _ _ _ _ _ _).out⟩
set_option maxRecDepth 100000 in
set_option maxHeartbeats 4000000 in
/-- parser.operand at a parenthesis -/
theorem operand_par {r : List It} {n : Tk} (hE : ExprOk B p a cp s r n) {w : World} {d : Int} {t cl v : Tk} {M : List Tk} (hok : (It.par t cl).Ok) (hd : 0 ≤ d ∧ d ≤ 64) (hcl : Stop cl) (hat : At B p a cp s w d (t :: (toks r n ++ cl :: v :: M))) :
    Calls Try.prog 77 #[.pointer (some ⟨p, 0, none⟩)] w (RetX p w fun w' => Out B p a cp s w' d (v :: M) (deepAt (It.par t cl :: r) d)) := by
  obtain ⟨hu, hcc, hul⟩ := hok
  have HUL := hide hul
  have HU := hide hu
  have HCC := hide hcc
  have HEE := hide hE
  have HCL := hide hcl
  clear hul hu hcc hE hcl
  obtain ⟨y, L0, hL⟩ := toks_cons r n (cl :: v :: M)
  obtain ⟨L, hLL⟩ : ∃ L, y :: L0 = L := ⟨_, rfl⟩
  rw [hL, hLL] at hat
  rw [hLL] at hL
  have HLL := hide hLL
  have HL := hide hL
  clear hLL hL
  obtain ⟨o, hps, hst⟩ := hat
  have hat0 : At B p a cp s w d (t :: L) := ⟨o, hps, hst⟩
  have hb : B ≤ w.heap.size ∧ p < B := ⟨hps.hB, hps.hp⟩
  have H0 := hide hat0
  have hps1 := hps.new (.cells #[.int .i64 0, .string ⟨#[]⟩, .int .i64 0, .string ⟨#[]⟩, .slice none 0 0, .int .i64 0, .int .i64 0] 47)
  have c6 := hps1.c6
  have c8 := hps1.c8
  have c9 := hps1.c9
  have hpl : p < w.heap.size := World.block_lt_of_cell? _ _ hps.c4
  have hpl1 : p < (w.alloc (.cells #[.int .i64 0, .string ⟨#[]⟩, .int .i64 0, .string ⟨#[]⟩, .slice none 0 0, .int .i64 0, .int .i64 0] 47)).heap.size := by simp; omega
  clear hat0 hps hst
  go_enter Try.func77, Try.ntmps77
  go_upto_region 1 with fail
  have hr0 := (XB.new w ⟨0, ⟨#[]⟩, 0, ⟨#[]⟩, none, 0, 0, 0, 0⟩).keep (S := fun _ => False) (((Ex.refl _ _).alloc (.cells #[.int .i64 0, .string ⟨#[]⟩, .int .i64 t.v, .string ⟨#[]⟩, .slice none 0 0, .int .i64 t.l, .int .i64 t.c] 47)).drew) (fun e => e)
  have hr1 := (XB.new (w.alloc (.cells #[.int .i64 0, .string ⟨#[]⟩, .int .i64 0, .string ⟨#[]⟩, .slice none 0 0, .int .i64 0, .int .i64 0] 47)) ⟨0, ⟨#[]⟩, t.v, ⟨#[]⟩, none, 0, 0, t.l, t.c⟩).keep (S := fun _ => False) ((Ex.refl _ _).drew) (fun e => e)
  rw [show (w.alloc (.cells #[.int .i64 0, .string ⟨#[]⟩, .int .i64 0, .string ⟨#[]⟩, .slice none 0 0, .int .i64 0, .int .i64 0] 47)).heap.size = w.heap.size + 1 by simp] at hr1
  have HE2 : Hid (Ex (fun k => k = p) w ((w.alloc (.cells #[.int .i64 0, .string ⟨#[]⟩, .int .i64 0, .string ⟨#[]⟩, .slice none 0 0, .int .i64 0, .int .i64 0] 47)).alloc (.cells #[.int .i64 0, .string ⟨#[]⟩, .int .i64 t.v, .string ⟨#[]⟩, .slice none 0 0, .int .i64 t.l, .int .i64 t.c] 47)).drew) := (((Ex.refl _ _).alloc _).alloc _).drew
  have hat2 := H0.out.ex (S := fun _ => False) ((((Ex.refl _ w).alloc (.cells #[.int .i64 0, .string ⟨#[]⟩, .int .i64 0, .string ⟨#[]⟩, .slice none 0 0, .int .i64 0, .int .i64 0] 47)).alloc (.cells #[.int .i64 0, .string ⟨#[]⟩, .int .i64 t.v, .string ⟨#[]⟩, .slice none 0 0, .int .i64 t.l, .int .i64 t.c] 47)).drew) (fun _ e => e.elim)
  go_region
  generalize ((w.alloc (.cells #[.int .i64 0, .string ⟨#[]⟩, .int .i64 0, .string ⟨#[]⟩, .slice none 0 0, .int .i64 0, .int .i64 0] 47)).alloc (.cells #[.int .i64 0, .string ⟨#[]⟩, .int .i64 t.v, .string ⟨#[]⟩, .slice none 0 0, .int .i64 t.l, .int .i64 t.c] 47)).drew = w2 at *
  have HB0 : Hid (B ≤ w.heap.size) := hb.1
  obtain ⟨r0, hr0e⟩ : ∃ r, w.heap.size = r := ⟨_, rfl⟩
  have HRR : Hid (w.heap.size ≤ r0) := by rw [hr0e]; exact Nat.le_refl _
  rw [hr0e] at hr0 hr1 HB0 hpl ⊢
  clear hr0e c6 c8 c9 hpl1 hps1 H0
  have hb0 := HB0.out
  have HR0 := hide hr0
  have HR1 := hide hr1
  have HAT := hide hat2
  obtain ⟨o2, hps2, hst2⟩ := id hat2
  have c4 := hps2.c4
  have HPS := hide hps2
  clear hr0 hr1 hat2 hps2 hst2
  have HI : Hid (isM t ⟨#[78, 79, 84]⟩ = false ∧ isM t ⟨#[45]⟩ = false ∧ isM t ⟨#[40]⟩ = true) := ⟨(isM_ne HU.out (by rw [ByteArray.toList_eq, ByteArray.toList_eq]; rfl)), (isM_ne HU.out (by rw [ByteArray.toList_eq, ByteArray.toList_eq]; rfl)), HU.out⟩
  rw [isM_k HU.out] at c4
  by_cases h64 : 64 ≤ d
  · have HOP := hide (open_deep HAT.out h64 (isM_k HU.out))
    have HDD : Hid (deepAt (It.par t cl :: r) d = some t.c) := if_pos h64
    clear h64
    go_upto_if 64 with (first | (go_at_call 72; refine (at_is HPS.out _ _ rfl).mono ?_; rintro e wq ⟨rfl, rfl⟩; simp only [HI.out.1, HI.out.2.1, HI.out.2.2]) | (go_at_call 94; refine (HOP.out).mono ?_; rintro e w3 ⟨rfl, hex, hbad⟩; have HEX := hide hex; have HBAD := hide hbad; clear hex hbad; simp only []))
    have HR03 := hide (HR0.out.keep HEX.out (by omega))
    have HR13 := hide (HR1.out.keep HEX.out (by omega))
    have HE3 := hide (HE2.out.trans HEX.out)
    have HQ : Hid (Out B p a cp s w3 d (v :: M) (deepAt (It.par t cl :: r) d)) := by
      have hb := HBAD.out
      rw [HUL.out] at hb
      show Out B p a cp s w3 d (v :: M) (deepAt (It.par t cl :: r) d)
      rw [HDD.out]
      exact hb
    clear HEX HBAD HAT HE2 HR0 HR1 HPS c4
    have R0 := HR03.out.c0
    have R1 := HR03.out.c1
    have R2 := HR03.out.c2
    have R3 := HR03.out.c3
    have R4 := HR03.out.c4
    have R5 := HR03.out.c5
    have R6 := HR03.out.c6
    have RF0 := HR03.out.fz 0
    have RF1 := HR03.out.fz 1
    have RF2 := HR03.out.fz 2
    have RF3 := HR03.out.fz 3
    have RF4 := HR03.out.fz 4
    have RF5 := HR03.out.fz 5
    have RF6 := HR03.out.fz 6
    have T0 := HR13.out.c0
    have T1 := HR13.out.c1
    have T2 := HR13.out.c2
    have T3 := HR13.out.c3
    have T4 := HR13.out.c4
    have T5 := HR13.out.c5
    have T6 := HR13.out.c6
    have HQF := fun (y0 y1 y2 y3 y4 y5 y6 : Value) => hide (HQ.out.ex ((((((((Ex.refl (fun k => k = r0) _).set (p := r0) (j := 0) rfl y0).set (p := r0) (j := 1) rfl y1).set (p := r0) (j := 2) rfl y2).set (p := r0) (j := 3) rfl y3).set (p := r0) (j := 4) rfl y4).set (p := r0) (j := 5) rfl y5).set (p := r0) (j := 6) rfl y6) (fun k e => e ▸ HB0.out))
    have HEF := fun (y0 y1 y2 y3 y4 y5 y6 : Value) => hide (((((((HE3.out.setNew (p := r0) (j := 0) HRR.out y0).setNew (p := r0) (j := 1) HRR.out y1).setNew (p := r0) (j := 2) HRR.out y2).setNew (p := r0) (j := 3) HRR.out y3).setNew (p := r0) (j := 4) HRR.out y4).setNew (p := r0) (j := 5) HRR.out y5).setNew (p := r0) (j := 6) HRR.out y6)
    go_wp2
    exact bodyPost_ret (v := xpV ⟨0, ⟨#[]⟩, t.v, ⟨#[]⟩, none, 0, 0, t.l, t.c⟩) (by simp [results, Try.results77, go_sem, xpV, R0, R1, R2, R3, R4, R5, R6]) rfl ⟨⟨0, ⟨#[]⟩, t.v, ⟨#[]⟩, none, 0, 0, t.l, t.c⟩, rfl, (HEF _ _ _ _ _ _ _).out, (HQF _ _ _ _ _ _ _).out⟩
  · have HAT' := HAT
    rw [← HLL.out] at HAT'
    have HOP := hide (open_ok HAT'.out (by omega) (isM_k HU.out))
    rw [HLL.out] at HOP
    clear HAT'
    have HDD : Hid (deepAt (It.par t cl :: r) d = deepAt r (d + 1)) := if_neg h64
    go_upto_if 64 with (first | (go_at_call 72; refine (at_is HPS.out _ _ rfl).mono ?_; rintro e wq ⟨rfl, rfl⟩; simp only [HI.out.1, HI.out.2.1, HI.out.2.2]) | (go_at_call 94; refine (HOP.out).mono ?_; rintro e w3 ⟨rfl, hex, hat⟩; have HEX := hide hex; have HAT3 := hide hat; clear hex hat; simp only []))
    have HX6 : Hid (Calls Try.prog 44 #[.pointer (some ⟨p, 0, none⟩), .int .i64 1] w3 (RetX p w3 fun w' => Out B p a cp s w' (d + 1) (cl :: v :: M) (deepAt r (d + 1)))) := HEE.out w3 (d + 1) cl (v :: M) (by omega) HCL.out (by rw [HL.out]; exact HAT3.out)
    have HR03 := hide (HR0.out.keep HEX.out (by omega))
    have HR13 := hide (HR1.out.keep HEX.out (by omega))
    have HE3 := hide (HE2.out.trans HEX.out)
    clear HEX HAT3 HAT HE2 HR0 HR1 HPS c4 HOP
    go_wp2_with fail
    refine (HX6.out).mono ?_
    rintro e w4 ⟨x, rfl, hex, hout⟩
    have HR04 := hide (HR03.out.keep hex (by omega))
    have HR14 := hide (HR13.out.keep hex (by omega))
    have HE4 := hide (HE3.out.trans hex)
    have HOUT := hide hout
    clear hex hout HR03 HR13 HE3 HX6
    unfold xpV
    simp only []
    have T0 := HR14.out.c0
    have T1 := HR14.out.c1
    have T2 := HR14.out.c2
    have T3 := HR14.out.c3
    have T4 := HR14.out.c4
    have T5 := HR14.out.c5
    have T6 := HR14.out.c6
    have TF0 := HR14.out.fz 0
    have TF1 := HR14.out.fz 1
    have TF2 := HR14.out.fz 2
    have TF3 := HR14.out.fz 3
    have TF4 := HR14.out.fz 4
    have TF5 := HR14.out.fz 5
    have TF6 := HR14.out.fz 6
    go_upto_region 15 with fail
    have hs5 := ((((((((Ex.refl (fun k => k = (r0 + 1)) w4).set (p := (r0 + 1)) (j := 0) rfl (.int .i64 x.k)).set (p := (r0 + 1)) (j := 1) rfl (.string x.x)).set (p := (r0 + 1)) (j := 2) rfl (.int .i64 x.n)).set (p := (r0 + 1)) (j := 3) rfl (.string x.m)).set (p := (r0 + 1)) (j := 4) rfl (.slice x.q x.ql x.qc)).set (p := (r0 + 1)) (j := 5) rfl (.int .i64 x.li)).set (p := (r0 + 1)) (j := 6) rfl (.int .i64 x.co))
    have hr1 := HR14.out.put x
    have hr0 := HR04.out.keep hs5 (by omega)
    have he5 := HE4.out.trans2 hs5 (fun j e => .inr (by have := HRR.out; omega))
    have hout5 := HOUT.out.ex hs5 (fun k e => by omega)
    generalize (((((((w4.setCell ⟨(r0 + 1), 0, none⟩ (.int .i64 x.k)).setCell ⟨(r0 + 1), 1, none⟩ (.string x.x)).setCell ⟨(r0 + 1), 2, none⟩ (.int .i64 x.n)).setCell ⟨(r0 + 1), 3, none⟩ (.string x.m)).setCell ⟨(r0 + 1), 4, none⟩ (.slice x.q x.ql x.qc)).setCell ⟨(r0 + 1), 5, none⟩ (.int .i64 x.li)).setCell ⟨(r0 + 1), 6, none⟩ (.int .i64 x.co)) = w5 at *
    clear HR14 HR04 HE4 HOUT hs5 T0 T1 T2 T3 T4 T5 T6 TF0 TF1 TF2 TF3 TF4 TF5 TF6
    obtain ⟨dd, k10, kf10, hdec⟩ := hout5.dec (by omega)
    have hs6 := (Ex.refl (fun k => k = p) w5).set (p := p) (j := 10) rfl (.int .i64 (wrap64 (dd - 1)))
    have HR06 := hide (hr0.keep hs6 (by omega))
    have HR16 := hide (hr1.keep hs6 (by omega))
    have HE6 := hide (he5.trans hs6)
    have HXP := hide (expect_out hdec ⟨#[41]⟩ HCC.out)
    clear hdec hs6 hr0 hr1 he5 hout5
    go_wp2_with fail
    refine (HXP.out).mono ?_
    rintro e w8 ⟨rfl, hex, hout⟩
    have HR08 := hide (HR06.out.keep hex (by omega))
    have HR18 := hide (HR16.out.keep hex (by omega))
    have HE8 := hide (HE6.out.trans hex)
    have HQ : Hid (Out B p a cp s w8 d (v :: M) (deepAt (It.par t cl :: r) d)) := by
      show Out B p a cp s w8 d (v :: M) (deepAt (It.par t cl :: r) d)
      rw [HDD.out]
      exact hout
    clear hex hout HR06 HR16 HE6 HXP k10 kf10
    simp only []
    have R0 := HR08.out.c0
    have R1 := HR08.out.c1
    have R2 := HR08.out.c2
    have R3 := HR08.out.c3
    have R4 := HR08.out.c4
    have R5 := HR08.out.c5
    have R6 := HR08.out.c6
    have RF0 := HR08.out.fz 0
    have RF1 := HR08.out.fz 1
    have RF2 := HR08.out.fz 2
    have RF3 := HR08.out.fz 3
    have RF4 := HR08.out.fz 4
    have RF5 := HR08.out.fz 5
    have RF6 := HR08.out.fz 6
    have T0 := HR18.out.c0
    have T1 := HR18.out.c1
    have T2 := HR18.out.c2
    have T3 := HR18.out.c3
    have T4 := HR18.out.c4
    have T5 := HR18.out.c5
    have T6 := HR18.out.c6
    have HQF := fun (y0 y1 y2 y3 y4 y5 y6 : Value) => hide (HQ.out.ex ((((((((Ex.refl (fun k => k = r0) _).set (p := r0) (j := 0) rfl y0).set (p := r0) (j := 1) rfl y1).set (p := r0) (j := 2) rfl y2).set (p := r0) (j := 3) rfl y3).set (p := r0) (j := 4) rfl y4).set (p := r0) (j := 5) rfl y5).set (p := r0) (j := 6) rfl y6) (fun k e => e ▸ HB0.out))
    have HEF := fun (y0 y1 y2 y3 y4 y5 y6 : Value) => hide (((((((HE8.out.setNew (p := r0) (j := 0) HRR.out y0).setNew (p := r0) (j := 1) HRR.out y1).setNew (p := r0) (j := 2) HRR.out y2).setNew (p := r0) (j := 3) HRR.out y3).setNew (p := r0) (j := 4) HRR.out y4).setNew (p := r0) (j := 5) HRR.out y5).setNew (p := r0) (j := 6) HRR.out y6)
    go_wp2
    exact bodyPost_ret (v := xpV x) (by simp [results, Try.results77, go_sem, xpV, R0, R1, R2, R3, R4, R5, R6]) rfl ⟨x, rfl, (HEF _ _ _ _ _ _ _).out, (HQF _ _ _ _ _ _ _).out⟩
end
end Go.Proofs.Qxb6500774a
