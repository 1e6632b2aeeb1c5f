import Derived.Test.Qxb6500774aGr1
namespace Go.Proofs.Qxb6500774a
open Go.RowKit

section
variable {B p : Nat} {a : Option Addr} {cp : Nat} {s : List Int}
theorem fld81 (k : Int) (x : ByteArray) (v e l c : Int) (w : World) : (Instr.field 81 (.agg #[.int .i64 k, .string x, .int .i64 v, .int .i64 e, .int .i64 l, .int .i64 c]) 1).run Try.prog w = .ok (.string x) w := by kernel_rfl
theorem XB.put3 {w : World} {r : Nat} {e : Xp} (h : XB w r e) (y : ByteArray) : XB (w.setCell ⟨r, 3, none⟩ (.string y)) r { e with m := y } := by
  refine ⟨?_, ?_, ?_, ?_, ?_, ?_, ?_, fun j => (set_frozen _ _ _ _).trans (h.fz j)⟩
  all_goals simp [go_sem, h.c0, h.c1, h.c2, h.c3, h.c4, h.c5, h.c6]
set_option maxRecDepth 100000 in
set_option maxHeartbeats 4000000 in
/-- parser.place: a name alone -/
theorem place_name {w : World} {d : Int} {t u : Tk} {L : List Tk} (hat : At B p a cp s w d (t :: u :: L)) (hk : t.k = 2) (h1 : isM u ⟨#[46]⟩ = false) (h2 : isM u ⟨#[91]⟩ = false) :
    Calls Try.prog 93 #[.pointer (some ⟨p, 0, none⟩)] w fun e w' => ∃ x, x.k = 3 ∧ e = .returned (xpV x) ∧ Ex (fun k => k = p) w w' ∧ At B p a cp s w' d (u :: L) := by
  obtain ⟨o, hps, hst⟩ := hat
  have hat0 : At B p a cp s w d (t :: u :: L) := ⟨o, hps, hst⟩
  have hb : B ≤ w.heap.size ∧ p < B := ⟨hps.hB, hps.hp⟩
  have H0 := hide hat0
  have hps1 := hps.new (.cells #[.int .i64 0, .string ⟨#[]⟩, .int .i64 0, .string ⟨#[]⟩, .slice none 0 0, .int .i64 0, .int .i64 0] 47)
  have c8 := hps1.c8
  have c9 := hps1.c9
  have hpl : p < w.heap.size := World.block_lt_of_cell? _ _ hps.c4
  have hpl1 : p < (w.alloc (.cells #[.int .i64 0, .string ⟨#[]⟩, .int .i64 0, .string ⟨#[]⟩, .slice none 0 0, .int .i64 0, .int .i64 0] 47)).heap.size := by simp; omega
  clear hat0 hps hst
  go_enter Try.func93, Try.ntmps93
  go_upto_region 1 with fail
  have hr0 := (XB.new w ⟨0, ⟨#[]⟩, 0, ⟨#[]⟩, none, 0, 0, 0, 0⟩).keep (S := fun _ => False) (((Ex.refl _ _).alloc (.cells #[.int .i64 3, .string ⟨#[]⟩, .int .i64 0, .string ⟨#[]⟩, .slice none 0 0, .int .i64 t.l, .int .i64 t.c] 47)).drew) (fun e => e)
  have hr1 := (XB.new (w.alloc (.cells #[.int .i64 0, .string ⟨#[]⟩, .int .i64 0, .string ⟨#[]⟩, .slice none 0 0, .int .i64 0, .int .i64 0] 47)) ⟨3, ⟨#[]⟩, 0, ⟨#[]⟩, none, 0, 0, t.l, t.c⟩).keep (S := fun _ => False) ((Ex.refl _ _).drew) (fun e => e)
  rw [show (w.alloc (.cells #[.int .i64 0, .string ⟨#[]⟩, .int .i64 0, .string ⟨#[]⟩, .slice none 0 0, .int .i64 0, .int .i64 0] 47)).heap.size = w.heap.size + 1 by simp] at hr1
  have HE2 : Hid (Ex (fun k => k = p) w ((w.alloc (.cells #[.int .i64 0, .string ⟨#[]⟩, .int .i64 0, .string ⟨#[]⟩, .slice none 0 0, .int .i64 0, .int .i64 0] 47)).alloc (.cells #[.int .i64 3, .string ⟨#[]⟩, .int .i64 0, .string ⟨#[]⟩, .slice none 0 0, .int .i64 t.l, .int .i64 t.c] 47)).drew) := (((Ex.refl _ _).alloc _).alloc _).drew
  have hat2 := H0.out.ex (S := fun _ => False) ((((Ex.refl _ w).alloc (.cells #[.int .i64 0, .string ⟨#[]⟩, .int .i64 0, .string ⟨#[]⟩, .slice none 0 0, .int .i64 0, .int .i64 0] 47)).alloc (.cells #[.int .i64 3, .string ⟨#[]⟩, .int .i64 0, .string ⟨#[]⟩, .slice none 0 0, .int .i64 t.l, .int .i64 t.c] 47)).drew) (fun _ e => e.elim)
  go_region
  generalize ((w.alloc (.cells #[.int .i64 0, .string ⟨#[]⟩, .int .i64 0, .string ⟨#[]⟩, .slice none 0 0, .int .i64 0, .int .i64 0] 47)).alloc (.cells #[.int .i64 3, .string ⟨#[]⟩, .int .i64 0, .string ⟨#[]⟩, .slice none 0 0, .int .i64 t.l, .int .i64 t.c] 47)).drew = w2 at *
  have HB0 : Hid (B ≤ w.heap.size) := hb.1
  obtain ⟨r0, hr0e⟩ : ∃ r, w.heap.size = r := ⟨_, rfl⟩
  have HRR : Hid (w.heap.size ≤ r0) := by rw [hr0e]; exact Nat.le_refl _
  rw [hr0e] at hr0 hr1 HB0 hpl ⊢
  clear hr0e c8 c9 hpl1 hps1 H0
  have HT := hide (take_yes _ hat2)
  rw [hk] at HT
  clear hat2
  go_wp2_with fail
  refine (HT.out).mono ?_
  rintro e w3 ⟨rfl, hex, hat⟩
  have hb0 := HB0.out
  have HR0 := hide (hr0.keep hex (by omega))
  have HR1 := hide (hr1.keep hex (by omega))
  have HE3 := hide (HE2.out.trans hex)
  have HAT := hide hat
  clear hex hat hr0 hr1 HE2 HT
  unfold tokV
  simp only []
  have q3 := HR1.out.c3
  have hfl := fld81 2 t.x t.v t.e t.l t.c w3
  have qf := HR1.out.fz 3
  go_wp2_with fail
  have hr1 := HR1.out.put3 t.x
  have hr0 := HR0.out.keep ((Ex.refl (fun k => k = r0 + 1) w3).set (p := r0 + 1) (j := 3) rfl (.string t.x)) (by omega)
  have he4 := HE3.out.setNew (p := r0 + 1) (j := 3) (by have := HRR.out; omega) (.string t.x)
  have hat4 := HAT.out.ex ((Ex.refl (fun k => k = r0 + 1) w3).set (p := r0 + 1) (j := 3) rfl (.string t.x)) (fun k e => by omega)
  generalize w3.setCell ⟨r0 + 1, 3, none⟩ (.string t.x) = w4 at *
  clear hfl q3 qf HR1 HR0 HE3 HAT
  obtain ⟨o2, hps, hst⟩ := id hat4
  have HA1 := hide (accept_no hps ⟨#[46]⟩ h1)
  have HA2 := hide (at_is hps ⟨#[91]⟩ _ h2)
  have HR0 := hide hr0
  have HR1 := hide hr1
  have HE4 := hide he4
  have HAT := hide hat4
  clear hps hst h1 h2 hr0 hr1 he4 hat4
  go_loopw [20] (fun _ wr => w4 = wr) (fun _ _ => 0)
  case atStart => rfl
  case round =>
    subst hrel
    have R0 := HR0.out.c0
    have R1 := HR0.out.c1
    have R2 := HR0.out.c2
    have R3 := HR0.out.c3
    have R4 := HR0.out.c4
    have R5 := HR0.out.c5
    have R6 := HR0.out.c6
    have RF0 := HR0.out.fz 0
    have RF1 := HR0.out.fz 1
    have RF2 := HR0.out.fz 2
    have RF3 := HR0.out.fz 3
    have RF4 := HR0.out.fz 4
    have RF5 := HR0.out.fz 5
    have RF6 := HR0.out.fz 6
    have T0 := HR1.out.c0
    have T1 := HR1.out.c1
    have T2 := HR1.out.c2
    have T3 := HR1.out.c3
    have T4 := HR1.out.c4
    have T5 := HR1.out.c5
    have T6 := HR1.out.c6
    have HQF := fun (y0 y1 y2 y3 y4 y5 y6 : Value) => hide (HAT.out.ex ((((((((Ex.refl (fun k => k = r0) _).set (p := r0) (j := 0) rfl y0).set (p := r0) (j := 1) rfl y1).set (p := r0) (j := 2) rfl y2).set (p := r0) (j := 3) rfl y3).set (p := r0) (j := 4) rfl y4).set (p := r0) (j := 5) rfl y5).set (p := r0) (j := 6) rfl y6) (fun k e => e ▸ HB0.out))
    have HEF := fun (y0 y1 y2 y3 y4 y5 y6 : Value) => hide (((((((HE4.out.setNew (p := r0) (j := 0) HRR.out y0).setNew (p := r0) (j := 1) HRR.out y1).setNew (p := r0) (j := 2) HRR.out y2).setNew (p := r0) (j := 3) HRR.out y3).setNew (p := r0) (j := 4) HRR.out y4).setNew (p := r0) (j := 5) HRR.out y5).setNew (p := r0) (j := 6) HRR.out y6)
    go_wp2_with (first | (go_at_call 43; refine (HA1.out).mono ?_; rintro e wq ⟨rfl, rfl⟩; simp only []) | (go_at_call 72; refine (HA2.out).mono ?_; rintro e wq ⟨rfl, rfl⟩; simp only []))
    exact bodyPost_ret (v := xpV ⟨3, ⟨#[]⟩, 0, t.x, none, 0, 0, t.l, t.c⟩) (by simp [results, Try.results93, go_sem, xpV, R0, R1, R2, R3, R4, R5, R6]) rfl ⟨⟨3, ⟨#[]⟩, 0, t.x, none, 0, 0, t.l, t.c⟩, rfl, rfl, (HEF _ _ _ _ _ _ _).out, (HQF _ _ _ _ _ _ _).out⟩
/-- 1 where the look-ahead is an index's bracket -/
noncomputable def mB (p : Nat) (w : World) : Nat := by
  classical
  exact if ∃ x : ByteArray, w.cell? ⟨p, 4, none⟩ = some (.int .i64 5) ∧ w.cell? ⟨p, 5, none⟩ = some (.string x) ∧ x.toList = [91] then 1 else 0
theorem mB_one {w : World} {d : Int} {t : Tk} {L : List Tk} (h : At B p a cp s w d (t :: L)) (ht : isM t ⟨#[91]⟩ = true) : mB p w = 1 := by
  obtain ⟨o, hps, _⟩ := h
  simp [isM] at ht
  unfold mB
  rw [if_pos]
  exact ⟨t.x, by rw [hps.c4, ht.1], hps.c5, ht.2⟩
theorem mB_zero {w : World} {d : Int} {u : Tk} {L : List Tk} {r : Option Int} (h : Out B p a cp s w d (u :: L) r) (hu : Stop u) : mB p w = 0 := by
  unfold mB
  rw [if_neg]
  rintro ⟨x, h4, h5, hx⟩
  cases r with
  | none =>
    obtain ⟨o, hps, _⟩ := h
    have h1 := hps.c4
    have h2 := hps.c5
    rw [h4] at h1
    rw [h5] at h2
    simp at h1 h2
    have := hu.2.2.2
    rw [isM, ← h1, ← h2, hx] at this
    rw [ByteArray.toList_eq] at this
    simp at this
  | some c =>
    obtain ⟨o, t, d', hps, hk, _⟩ := h
    have h1 := hps.c4
    rw [h4, hk] at h1
    simp at h1
theorem toks_cons (r : List It) (n : Tk) (K : List Tk) : ∃ y Y, toks r n ++ K = y :: Y := by
  cases r with
  | nil => exact ⟨n, K, rfl⟩
  | cons i r =>
    cases i with
    | par o c => exact ⟨o, _, rfl⟩
    | idx m o c => exact ⟨m, _, rfl⟩
    | un o => exact ⟨o, _, rfl⟩
theorem isM_ne {t : Tk} {x y : ByteArray} (h : isM t x = true) (hn : (x.toList == y.toList) = false) : isM t y = false := by
  simp only [isM, Bool.and_eq_true, beq_iff_eq] at h
  simp only [isM, h.2, hn, Bool.and_false]
theorem isM_k {t : Tk} {x : ByteArray} (h : isM t x = true) : t.k = 5 := by
  simp only [isM, Bool.and_eq_true, beq_iff_eq] at h
  exact h.1
theorem Out.dec {w : World} {d : Int} {M : List Tk} {r : Option Int} (h : Out B p a cp s w (d + 1) M r) (hd : 0 ≤ d ∧ d ≤ 64) : ∃ dd, w.cell? ⟨p, 10, none⟩ = some (.int .i64 dd) ∧ w.frozen? ⟨p, 10, none⟩ = false ∧ Out B p a cp s (w.setCell ⟨p, 10, none⟩ (.int .i64 (wrap64 (dd - 1)))) d M r := by
  cases r with
  | none =>
    cases M with
    | nil => exact h.elim
    | cons t M =>
      obtain ⟨o, hps, hst⟩ := h
      refine ⟨d + 1, hps.c10, hps.fr 10, o, ?_, hst⟩
      rw [show wrap64 (d + 1 - 1) = d by unfold wrap64; omega]
      exact hps.dep d
  | some c =>
    obtain ⟨o, t, d', hps, hk, hf⟩ := h
    exact ⟨d', hps.c10, hps.fr 10, o, t, _, hps.dep _, hk, hf⟩
theorem expect_out {w : World} {d : Int} {t v : Tk} {M : List Tk} {r : Option Int} (h : Out B p a cp s w d (t :: v :: M) r) (x : ByteArray) (hx : isM t x = true) :
    Calls Try.prog 34 #[.pointer (some ⟨p, 0, none⟩), .string x] w fun e w' => e = .returned (.tuple #[]) ∧ Ex (fun k => k = p) w w' ∧ Out B p a cp s w' d (v :: M) r := by
  cases r with
  | none => exact expect_yes h x hx
  | some c =>
    refine (expect_bad h x).mono ?_
    rintro e w' ⟨rfl, rfl⟩
    exact ⟨rfl, Ex.refl _ _, h⟩
theorem accept_out {w : World} {d : Int} {t : Tk} {M : List Tk} {r : Option Int} (h : Out B p a cp s w d (t :: M) r) (x : ByteArray) (hx : isM t x = false) :
    Calls Try.prog 43 #[.pointer (some ⟨p, 0, none⟩), .string x] w fun e w' => e = .returned (.bool false) ∧ w = w' := by
  cases r with
  | none =>
    obtain ⟨o, hps, hst⟩ := h
    exact accept_no hps x hx
  | some c => exact accept_bad h x
theorem at_out {w : World} {d : Int} {t : Tk} {M : List Tk} {r : Option Int} (h : Out B p a cp s w d (t :: M) r) (x : ByteArray) (hx : isM t x = false) :
    Calls Try.prog 72 #[.pointer (some ⟨p, 0, none⟩), .string x] w fun e w' => e = .returned (.bool false) ∧ w = w' := by
  cases r with
  | none =>
    obtain ⟨o, hps, hst⟩ := h
    exact at_is hps x _ hx
  | some c => exact at_bad h x
end
end Go.Proofs.Qxb6500774a
