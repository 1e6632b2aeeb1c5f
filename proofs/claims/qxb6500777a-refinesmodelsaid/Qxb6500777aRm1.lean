import Derived.Test.Qxb6500777aRmQ
import Derived.Test.Qxb6500777aFsd
import Derived.Test.Qxb6500777aEvW
import Derived.BigQuiet
import Derived.ChangeKeysEq
namespace Go.Proofs.Qxb6500777a
open Go.RowKit

/-! ### The model's entries -/
def Ev (s : Slt) : List Value := [.int .i64 s.tg, .int .i64 s.sk, .int .i64 s.tr.num, .int .i64 s.tr.x, .int .i64 s.tr.y, .int .i64 s.tr.co, .int .i64 s.tr.sp, .int .i64 s.tr.st, .int .i64 s.tr.ag]
theorem Ev.len (s : Slt) : (Ev s).length = 9 := rfl
theorem Ev.one (s : Slt) : ∀ u ∈ Ev s, u.oneCell' = true := by
  intro u hu
  simp only [Ev, List.mem_cons, List.not_mem_nil, or_false] at hu
  rcases hu with rfl | rfl | rfl | rfl | rfl | rfl | rfl | rfl | rfl <;> rfl
def kf (s : Slt) : Nat → Int
  | 0 => s.tr.ag
  | 1 => s.tr.x
  | 2 => s.tr.y
  | 3 => s.tr.co
  | 4 => s.tr.sp
  | 5 => s.tr.st
  | _ => s.sk
theorem RA.ee {w : World} {b o : Nat} {s : Slt} (h : RA w b o (Ev s)) : w.cell? ⟨b, o, none⟩ = some (.int .i64 s.tg) ∧ w.cell? ⟨b, o + 1, none⟩ = some (.int .i64 s.sk) ∧ w.cell? ⟨b, o + 2, none⟩ = some (.int .i64 s.tr.num) ∧ w.cell? ⟨b, o + 3, none⟩ = some (.int .i64 s.tr.x) ∧ w.cell? ⟨b, o + 4, none⟩ = some (.int .i64 s.tr.y) ∧ w.cell? ⟨b, o + 5, none⟩ = some (.int .i64 s.tr.co) ∧ w.cell? ⟨b, o + 6, none⟩ = some (.int .i64 s.tr.sp) ∧ w.cell? ⟨b, o + 7, none⟩ = some (.int .i64 s.tr.st) ∧ w.cell? ⟨b, o + 8, none⟩ = some (.int .i64 s.tr.ag) :=
  ⟨h.c 0 _ rfl, h.c 1 _ rfl, h.c 2 _ rfl, h.c 3 _ rfl, h.c 4 _ rfl, h.c 5 _ rfl, h.c 6 _ rfl, h.c 7 _ rfl, h.c 8 _ rfl⟩
theorem new_re (w : World) (s : Slt) : RA (w.alloc (.cells #[.int .i64 s.tg, .int .i64 s.sk, .int .i64 s.tr.num, .int .i64 s.tr.x, .int .i64 s.tr.y, .int .i64 s.tr.co, .int .i64 s.tr.sp, .int .i64 s.tr.st, .int .i64 s.tr.ag] 113)) w.heap.size 0 (Ev s) := by
  refine ⟨fun j v hv => ?_, fun j => by simp [go_sem]⟩
  have := new_cells w (Ev s) 113 j v hv
  rw [Addr.add_mid] at this
  exact this
theorem new_z7 (w : World) : RA (w.alloc (.cells #[.int .i64 0, .int .i64 0, .int .i64 0, .int .i64 0, .int .i64 0, .int .i64 0, .int .i64 0] 135)) w.heap.size 0 [.int .i64 0, .int .i64 0, .int .i64 0, .int .i64 0, .int .i64 0, .int .i64 0, .int .i64 0] := by
  refine ⟨fun j v hv => ?_, fun j => by simp [go_sem]⟩
  have := new_cells w [.int .i64 0, .int .i64 0, .int .i64 0, .int .i64 0, .int .i64 0, .int .i64 0, .int .i64 0] 135 j v hv
  rw [Addr.add_mid] at this
  exact this
set_option maxRecDepth 100000 in
set_option maxHeartbeats 4000000 in
/-- tracksm.key -/
theorem key_any (w : World) (s : Slt) : Calls Try.prog 66 #[.agg #[.int .i64 s.tg, .int .i64 s.sk, .int .i64 s.tr.num, .int .i64 s.tr.x, .int .i64 s.tr.y, .int .i64 s.tr.co, .int .i64 s.tr.sp, .int .i64 s.tr.st, .int .i64 s.tr.ag]] w fun e w' => e = .returned (.agg #[.int .i64 s.tr.ag, .int .i64 s.tr.x, .int .i64 s.tr.y, .int .i64 s.tr.co, .int .i64 s.tr.sp, .int .i64 s.tr.st, .int .i64 s.sk]) ∧ Below w.heap.size w w' := by
  have HB := hide (be2 w (.cells #[.int .i64 s.tg, .int .i64 s.sk, .int .i64 s.tr.num, .int .i64 s.tr.x, .int .i64 s.tr.y, .int .i64 s.tr.co, .int .i64 s.tr.sp, .int .i64 s.tr.st, .int .i64 s.tr.ag] 113) (.cells #[.int .i64 0, .int .i64 0, .int .i64 0, .int .i64 0, .int .i64 0, .int .i64 0, .int .i64 0] 135))
  have HS := hide (RA.below (new_re w s) (by simp) (be1 (w.alloc (.cells #[.int .i64 s.tg, .int .i64 s.sk, .int .i64 s.tr.num, .int .i64 s.tr.x, .int .i64 s.tr.y, .int .i64 s.tr.co, .int .i64 s.tr.sp, .int .i64 s.tr.st, .int .i64 s.tr.ag] 113)) (.cells #[.int .i64 0, .int .i64 0, .int .i64 0, .int .i64 0, .int .i64 0, .int .i64 0, .int .i64 0] 135)))
  have HZ := hide (new_z7 (w.alloc (.cells #[.int .i64 s.tg, .int .i64 s.sk, .int .i64 s.tr.num, .int .i64 s.tr.x, .int .i64 s.tr.y, .int .i64 s.tr.co, .int .i64 s.tr.sp, .int .i64 s.tr.st, .int .i64 s.tr.ag] 113)))
  rw [show (w.alloc (.cells #[.int .i64 s.tg, .int .i64 s.sk, .int .i64 s.tr.num, .int .i64 s.tr.x, .int .i64 s.tr.y, .int .i64 s.tr.co, .int .i64 s.tr.sp, .int .i64 s.tr.st, .int .i64 s.tr.ag] 113)).heap.size = w.heap.size + 1 by simp] at HZ
  go_enter Try.func66, Try.ntmps66
  go_upto_region 1 with fail
  generalize (w.alloc (.cells #[.int .i64 s.tg, .int .i64 s.sk, .int .i64 s.tr.num, .int .i64 s.tr.x, .int .i64 s.tr.y, .int .i64 s.tr.co, .int .i64 s.tr.sp, .int .i64 s.tr.st, .int .i64 s.tr.ag] 113)).alloc (.cells #[.int .i64 0, .int .i64 0, .int .i64 0, .int .i64 0, .int .i64 0, .int .i64 0, .int .i64 0] 135) = w1 at *
  obtain ⟨x, hx⟩ : ∃ x, w.heap.size + 1 = x := ⟨_, rfl⟩
  have hxg : w.heap.size ≤ x := by omega
  rw [hx] at HZ ⊢
  clear hx
  obtain ⟨y, hy⟩ : ∃ y, w.heap.size = y := ⟨_, rfl⟩
  rw [hy] at HS ⊢
  clear hy
  obtain ⟨y0, y1, y2, y3, y4, y5, y6, y7, y8⟩ := HS.out.ee
  simp only [Nat.zero_add] at y1 y2 y3 y4 y5 y6 y7 y8
  have r0 := HZ.out.c 0 _ rfl
  have r1 := HZ.out.c 1 _ rfl
  have r2 := HZ.out.c 2 _ rfl
  have r3 := HZ.out.c 3 _ rfl
  have r4 := HZ.out.c 4 _ rfl
  have r5 := HZ.out.c 5 _ rfl
  have r6 := HZ.out.c 6 _ rfl
  simp only [Nat.zero_add] at r0 r1 r2 r3 r4 r5 r6
  have rf := HZ.out.f
  have HB2 := hide (((((((HB.out.setCell (p := ⟨x, 0, none⟩) hxg (.int .i64 s.tr.ag)).setCell (p := ⟨x, 1, none⟩) hxg (.int .i64 s.tr.x)).setCell (p := ⟨x, 2, none⟩) hxg (.int .i64 s.tr.y)).setCell (p := ⟨x, 3, none⟩) hxg (.int .i64 s.tr.co)).setCell (p := ⟨x, 4, none⟩) hxg (.int .i64 s.tr.sp)).setCell (p := ⟨x, 5, none⟩) hxg (.int .i64 s.tr.st)).setCell (p := ⟨x, 6, none⟩) hxg (.int .i64 s.sk))
  go_wp2
  exact bodyPost_ret (v := .agg #[.int .i64 s.tr.ag, .int .i64 s.tr.x, .int .i64 s.tr.y, .int .i64 s.tr.co, .int .i64 s.tr.sp, .int .i64 s.tr.st, .int .i64 s.sk]) (by simp [results, Try.results66, go_sem, r0, r1, r2, r3, r4, r5, r6]) rfl ⟨rfl, HB2.out⟩
theorem new_kk (w : World) (s : Slt) : ∀ i, i < 7 → (w.alloc (.cells #[.int .i64 s.tr.ag, .int .i64 s.tr.x, .int .i64 s.tr.y, .int .i64 s.tr.co, .int .i64 s.tr.sp, .int .i64 s.tr.st, .int .i64 s.sk] 135)).cell? ⟨w.heap.size, i, none⟩ = some (.int .i64 (kf s i)) := fun i hi => by
  rcases (by omega : i = 0 ∨ i = 1 ∨ i = 2 ∨ i = 3 ∨ i = 4 ∨ i = 5 ∨ i = 6) with rfl | rfl | rfl | rfl | rfl | rfl | rfl <;> simp [go_sem, kf]
theorem less_at {a b : Slt} (ha : SltOk a) (hb : SltOk b) {i : Nat} (hi : i < 7) (h : ∀ j, j < i → kf a j = kf b j) (hne : kf a i ≠ kf b i) : (kf a i < kf b i ↔ keyP a < keyP b) := by
  have h1 := ha.tr.x; have h2 := ha.tr.y; have h3 := ha.tr.co; have h4 := ha.tr.sp; have h5 := ha.tr.st; have h6 := ha.tr.ag; have h7 := ha.sk
  have k1 := hb.tr.x; have k2 := hb.tr.y; have k3 := hb.tr.co; have k4 := hb.tr.sp; have k5 := hb.tr.st; have k6 := hb.tr.ag; have k7 := hb.sk
  unfold keyP
  rcases (by omega : i = 0 ∨ i = 1 ∨ i = 2 ∨ i = 3 ∨ i = 4 ∨ i = 5 ∨ i = 6) with rfl | rfl | rfl | rfl | rfl | rfl | rfl
  · simp only [kf] at *
    omega
  · have e0 := h 0 (by omega)
    simp only [kf] at *
    omega
  · have e0 := h 0 (by omega); have e1 := h 1 (by omega)
    simp only [kf] at *
    omega
  · have e0 := h 0 (by omega); have e1 := h 1 (by omega); have e2 := h 2 (by omega)
    simp only [kf] at *
    omega
  · have e0 := h 0 (by omega); have e1 := h 1 (by omega); have e2 := h 2 (by omega); have e3 := h 3 (by omega)
    simp only [kf] at *
    omega
  · have e0 := h 0 (by omega); have e1 := h 1 (by omega); have e2 := h 2 (by omega); have e3 := h 3 (by omega); have e4 := h 4 (by omega)
    simp only [kf] at *
    omega
  · have e0 := h 0 (by omega); have e1 := h 1 (by omega); have e2 := h 2 (by omega); have e3 := h 3 (by omega); have e4 := h 4 (by omega); have e5 := h 5 (by omega)
    simp only [kf] at *
    omega
theorem less_all {a b : Slt} (h : ∀ j, j < 7 → kf a j = kf b j) : keyP a = keyP b := by
  have e0 := h 0 (by omega); have e1 := h 1 (by omega); have e2 := h 2 (by omega); have e3 := h 3 (by omega); have e4 := h 4 (by omega); have e5 := h 5 (by omega); have e6 := h 6 (by omega)
  simp only [kf] at *
  unfold keyP
  rw [e0, e1, e2, e3, e4, e5, e6]
set_option maxRecDepth 100000 in
set_option maxHeartbeats 4000000 in
/-- tracksm.less -/
theorem less_any (w : World) (a b : Slt) (ha : SltOk a) (hb : SltOk b) : Calls Try.prog 67 #[.agg #[.int .i64 a.tr.ag, .int .i64 a.tr.x, .int .i64 a.tr.y, .int .i64 a.tr.co, .int .i64 a.tr.sp, .int .i64 a.tr.st, .int .i64 a.sk], .agg #[.int .i64 b.tr.ag, .int .i64 b.tr.x, .int .i64 b.tr.y, .int .i64 b.tr.co, .int .i64 b.tr.sp, .int .i64 b.tr.st, .int .i64 b.sk]] w fun e w' => e = .returned (.bool (decide (keyP a < keyP b))) ∧ Below w.heap.size w w' := by
  have HA := hide ha
  have HB := hide hb
  clear ha hb
  go_enter Try.func67, Try.ntmps67
  go_upto_region 1 with fail
  have K1 := hide (fun i hi => cellKeep (be1 (w.alloc (.cells #[.int .i64 a.tr.ag, .int .i64 a.tr.x, .int .i64 a.tr.y, .int .i64 a.tr.co, .int .i64 a.tr.sp, .int .i64 a.tr.st, .int .i64 a.sk] 135)) (.cells #[.int .i64 b.tr.ag, .int .i64 b.tr.x, .int .i64 b.tr.y, .int .i64 b.tr.co, .int .i64 b.tr.sp, .int .i64 b.tr.st, .int .i64 b.sk] 135)) (new_kk w a i hi))
  have K2 := hide (new_kk (w.alloc (.cells #[.int .i64 a.tr.ag, .int .i64 a.tr.x, .int .i64 a.tr.y, .int .i64 a.tr.co, .int .i64 a.tr.sp, .int .i64 a.tr.st, .int .i64 a.sk] 135)) b)
  have HW := hide (be2 w (.cells #[.int .i64 a.tr.ag, .int .i64 a.tr.x, .int .i64 a.tr.y, .int .i64 a.tr.co, .int .i64 a.tr.sp, .int .i64 a.tr.st, .int .i64 a.sk] 135) (.cells #[.int .i64 b.tr.ag, .int .i64 b.tr.x, .int .i64 b.tr.y, .int .i64 b.tr.co, .int .i64 b.tr.sp, .int .i64 b.tr.st, .int .i64 b.sk] 135))
  rw [show (w.alloc (.cells #[.int .i64 a.tr.ag, .int .i64 a.tr.x, .int .i64 a.tr.y, .int .i64 a.tr.co, .int .i64 a.tr.sp, .int .i64 a.tr.st, .int .i64 a.sk] 135)).heap.size = w.heap.size + 1 by simp] at K2
  generalize (w.alloc (.cells #[.int .i64 a.tr.ag, .int .i64 a.tr.x, .int .i64 a.tr.y, .int .i64 a.tr.co, .int .i64 a.tr.sp, .int .i64 a.tr.st, .int .i64 a.sk] 135)).alloc (.cells #[.int .i64 b.tr.ag, .int .i64 b.tr.x, .int .i64 b.tr.y, .int .i64 b.tr.co, .int .i64 b.tr.sp, .int .i64 b.tr.st, .int .i64 b.sk] 135) = w1 at *
  obtain ⟨x, hx⟩ : ∃ x, w.heap.size = x := ⟨_, rfl⟩
  obtain ⟨y, hy⟩ : ∃ y, w.heap.size + 1 = y := ⟨_, rfl⟩
  have HZ := hide (And.intro hx hy)
  rw [hy] at K2 ⊢
  rw [hx] at K1 ⊢
  clear hx hy
  go_wp2
  go_loopw [5] (fun s5 wr => ∃ i : Nat, i ≤ 7 ∧ s5 = .int .i64 i ∧ Hid (∀ j, j < i → kf a j = kf b j) ∧ Below w1.heap.size w1 wr) (fun s5 _ => 7 - (intOf s5).toNat)
  case atStart => exact ⟨0, by omega, rfl, hide fun j hj => by omega, Below.refl _ _⟩
  case round =>
    obtain ⟨i, hi, rfl, HE, hb⟩ := hrel
    have HBE := hide hb
    clear hb
    by_cases hi7 : i < 7
    · have hi7i : (i : Int) < 7 := by omega
      have hi0 : decide ((i : Int) < 0) = false := by simp
      have c1 := cellKeep HBE.out (K1.out i hi7)
      have c2 := cellKeep HBE.out (K2.out i hi7)
      by_cases he : kf a i = kf b i
      · have heb : (kf a i != kf b i) = false := by simp [he]
        have HEQ := hide he
        clear he
        go_upto_region 4 with fail
        go_quiet (fail)
        go_wp2
        go_roundw
        case rel => exact ⟨i + 1, by omega, by simp, hide fun j hj => by rcases (by omega : j < i ∨ j = i) with z | rfl; exact HE.out j z; exact HEQ.out, lec HBE.out (belN _ _)⟩
        case measure => simp [intOf]; omega
      · have heb : (kf a i != kf b i) = true := by simp [he]
        have HLA := hide (less_at HA.out HB.out hi7 HE.out he)
        clear he
        go_upto_region 4 with fail
        go_quiet (fail)
        rename_i nq
        have c1 := cellKeep (belN _ nq) c1
        have c2 := cellKeep (belN _ nq) c2
        go_upto_region 5 with fail
        go_quiet (fail)
        go_wp2
        go_ret
        refine ⟨by rw [show decide (kf a i < kf b i) = decide (keyP a < keyP b) from decide_eq_decide.2 HLA.out]; rfl, ?_⟩
        exact lec (lec (lec HW.out HBE.out) (belN _ _)) (belN _ _)
    · obtain rfl : i = 7 := by omega
      rw [show ((7 : Nat) : Int) = 7 from rfl]
      have HQ := hide (less_all HE.out)
      go_wp2
      go_ret
      exact ⟨by rw [HQ.out]; simp, lec HW.out HBE.out⟩
theorem eqItems_int (w : World) (d : Nat) (f g : Nat → Int) (xs ys : Array Value) (hx : ∀ i, i < 7 → xs[i]? = some (.int .i64 (f i))) (hy : ∀ i, i < 7 → ys[i]? = some (.int .i64 (g i))) (hu : Try.prog.underlying 2 = some (.int .i64)) : ∀ is : List Nat, (∀ i ∈ is, i < 7) → (Op.eqItems (d + 1) 2 1 xs ys is).run Try.prog w = .ok (is.all (fun i => f i == g i)) w
  | [], _ => by simp [Op.eqItems]
  | i :: is, h => by
    have hi := h i (List.mem_cons_self ..)
    have ih := eqItems_int w d f g xs ys hx hy hu is (fun k hk => h k (List.mem_cons_of_mem _ hk))
    have p1 := run_part_plain (P := Try.prog) w (e := 2) (by kernel_rfl) (show xs[i * 1]? = _ by rw [Nat.mul_one]; exact hx i hi)
    have p2 := run_part_plain (P := Try.prog) w (e := 2) (by kernel_rfl) (show ys[i * 1]? = _ by rw [Nat.mul_one]; exact hy i hi)
    have p3 := run_equalIn_int (P := Try.prog) w d 2 .i64 .i64 (f i) (g i) hu
    simp only [Op.eqItems, Sem.run_bind, p1, p2, p3, Result.andThen_ok]
    cases hfg : (f i == g i)
    · simp [hfg]
    · simpa [hfg] using ih
theorem kf_get (s : Slt) : ∀ i, i < 7 → (#[.int .i64 s.tr.ag, .int .i64 s.tr.x, .int .i64 s.tr.y, .int .i64 s.tr.co, .int .i64 s.tr.sp, .int .i64 s.tr.st, .int .i64 s.sk] : Array Value)[i]? = some (.int .i64 (kf s i)) := fun i hi => by
  rcases (by omega : i = 0 ∨ i = 1 ∨ i = 2 ∨ i = 3 ∨ i = 4 ∨ i = 5 ∨ i = 6) with rfl | rfl | rfl | rfl | rfl | rfl | rfl <;> rfl
theorem kf_all (a b : Slt) (ha : SltOk a) (hb : SltOk b) : (List.range 7).all (fun i => kf a i == kf b i) = decide (keyP a = keyP b) := by
  rw [Bool.eq_iff_iff, List.all_eq_true, decide_eq_true_eq]
  constructor
  · intro h
    exact less_all (fun j hj => by have := h j (List.mem_range.2 hj); simpa using this)
  · intro h i hi
    rw [List.mem_range] at hi
    obtain ⟨h1, h2, h3, h4, h5, h6, h7⟩ := key_ext ha hb h
    rcases (by omega : i = 0 ∨ i = 1 ∨ i = 2 ∨ i = 3 ∨ i = 4 ∨ i = 5 ∨ i = 6) with rfl | rfl | rfl | rfl | rfl | rfl | rfl <;> simp [kf, *]
set_option maxRecDepth 100000 in
theorem eq135 (w : World) (a b : Slt) (ha : SltOk a) (hb : SltOk b) : (Op.equalIn 10000 135 (.agg #[.int .i64 a.tr.ag, .int .i64 a.tr.x, .int .i64 a.tr.y, .int .i64 a.tr.co, .int .i64 a.tr.sp, .int .i64 a.tr.st, .int .i64 a.sk]) (.agg #[.int .i64 b.tr.ag, .int .i64 b.tr.x, .int .i64 b.tr.y, .int .i64 b.tr.co, .int .i64 b.tr.sp, .int .i64 b.tr.st, .int .i64 b.sk])).run Try.prog w = .ok (decide (keyP a = keyP b)) w := by
  obtain ⟨i3, hi3⟩ : ∃ i, Try.prog.info? 2 = some i := ⟨_, rfl⟩
  rw [run_equalIn_array w 9999 _ _ Try.underlying135 hi3, show Try.prog.cellsOf 2 = 1 from by kernel_rfl, eqItems_int w 9998 (kf a) (kf b) _ _ (kf_get a) (kf_get b) Try.underlying2 (List.range 7) (fun i hi => List.mem_range.1 hi), kf_all a b ha hb]
set_option maxRecDepth 100000 in
set_option maxHeartbeats 4000000 in
/-- tracksm.evicted -/
theorem evicted_any (w : World) (a b : Trk) : Calls Try.prog 68 #[.agg #[.int .i64 a.num, .int .i64 a.x, .int .i64 a.y, .int .i64 a.co, .int .i64 a.sp, .int .i64 a.st, .int .i64 a.ag], .agg #[.int .i64 b.num, .int .i64 b.x, .int .i64 b.y, .int .i64 b.co, .int .i64 b.sp, .int .i64 b.st, .int .i64 b.ag]] w fun e w' => e = .returned (.bool (worseP a b)) ∧ Below w.heap.size w w' := by
  have HW := hide (be2 w (.cells #[.int .i64 a.num, .int .i64 a.x, .int .i64 a.y, .int .i64 a.co, .int .i64 a.sp, .int .i64 a.st, .int .i64 a.ag] 51) (.cells #[.int .i64 b.num, .int .i64 b.x, .int .i64 b.y, .int .i64 b.co, .int .i64 b.sp, .int .i64 b.st, .int .i64 b.ag] 51))
  by_cases h1 : a.ag = b.ag
  · by_cases h2 : a.st = b.st
    · have e1 : (a.ag != b.ag) = false := by simp [h1]
      have e2 : (a.st != b.st) = false := by simp [h2]
      have HE := hide (show worseP a b = decide (a.num < b.num) by unfold worseP; rw [if_neg (fun z => z h1), if_neg (fun z => z h2)])
      clear h1 h2
      go_enter Try.func68, Try.ntmps68
      go_wp2
      go_ret
      exact ⟨by rw [HE.out]; rfl, HW.out⟩
    · have e1 : (a.ag != b.ag) = false := by simp [h1]
      have e2 : (a.st != b.st) = true := by simp [h2]
      have HE := hide (show worseP a b = decide (a.st < b.st) by unfold worseP; rw [if_neg (fun z => z h1), if_pos h2])
      clear h1 h2
      go_enter Try.func68, Try.ntmps68
      go_wp2
      go_ret
      exact ⟨by rw [HE.out]; rfl, HW.out⟩
  · have e1 : (a.ag != b.ag) = true := by simp [h1]
    have HE := hide (show worseP a b = decide (b.ag < a.ag) by unfold worseP; rw [if_pos h1])
    clear h1
    go_enter Try.func68, Try.ntmps68
    go_wp2
    go_ret
    exact ⟨by rw [HE.out]; rfl, HW.out⟩
end Go.Proofs.Qxb6500777a
