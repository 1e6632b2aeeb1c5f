import Derived.Test.Qxb6500777aFrP
import Derived.Test.Qxb6500777aWd
namespace Go.Proofs.Qxb6500777a
open Go.RowKit

theorem Try.z94 : Try.zeroCells94 = Array.replicate 112 (.int .i64 0) := by kernel_rfl
theorem Try.z128 : Try.zeroCells128 = Array.replicate 1008 (.int .i64 0) := by kernel_rfl
theorem zero_ba (w : World) : BA (w.alloc (.cells Try.zeroCells94 94)) w.heap.size (fun _ => 0) := by
  refine ⟨fun i hi => ?_, fun j => by simp [go_sem]⟩
  rw [Try.z94]
  simp [go_sem, hi]
theorem zero_fa (w : World) : FA (w.alloc (.cells Try.zeroCells128 128)) w.heap.size (fun _ => ctc0) := fun i hi => by
  refine ⟨fun j v hv => ?_, fun j => by simp [go_sem]⟩
  have hj : j < 9 := (List.getElem?_eq_some_iff.1 hv).1
  have hv0 : v = .int .i64 0 := by
    have := List.mem_of_getElem? hv
    simp [Ctc.vals, ctc0, trk0] at this
    exact this
  rw [Try.z128, hv0]
  have : i * 9 + j < 1008 := by omega
  simp [go_sem, this]
/-- What else a tick reads, and what it leaves alone. -/
structure TW (w0 : World) (b o m p : Nat) (X Y : Nat → Int) (W : Nat → Tgt) (wr : World) : Prop where
  c0 : wr.cell? ⟨b, 0, none⟩ = some (.pointer (some ⟨m, 0, none⟩))
  mt : MT wr m X Y
  wa : WA wr p W
  fr : Fr b o 754 w0 wr
section
variable {w0 wr w' : World} {b o m p : Nat} {X Y : Nat → Int} {W : Nat → Tgt}
theorem TW.go (h : TW w0 b o m p X Y W wr) (k : Fr b o 754 wr w') (ho : 0 < o) (hm : m ≠ b) (hp : p ≠ b) : TW w0 b o m p X Y W w' :=
  ⟨(k.cell 0 (.inl ho)).trans h.c0, h.mt.keep k.ex hm, h.wa.keep k.ex hp, h.fr.trans k⟩
theorem TW.below (h : TW w0 b o m p X Y W wr) (k : Below wr.heap.size wr w') : TW w0 b o m p X Y W w' :=
  ⟨cellKeep k h.c0, h.mt.below k, h.wa.below k, h.fr.trans (Fr.of (World.block_lt_of_cell? _ _ h.c0) k)⟩
theorem TW.drew (h : TW w0 b o m p X Y W wr) : TW w0 b o m p X Y W wr.drew := ⟨h.c0, h.mt.drew, h.wa, h.fr.drew⟩
/-- Another block, new since w0, turns. -/
theorem TW.new (h : TW w0 b o m p X Y W wr) {q lo n : Nat} (k : Fr q lo n wr w') (hq : w0.heap.size ≤ q) (hb : b < w0.heap.size) (hm : m < w0.heap.size) (hp : p < w0.heap.size) : TW w0 b o m p X Y W w' := by
  have hbl : b < wr.heap.size := Nat.lt_of_lt_of_le hb h.fr.ex.size
  have hbq : b ≠ q := by omega
  refine ⟨k.ex.cell hbq h.c0, h.mt.keep k.ex (by omega), h.wa.keep k.ex (by omega), ⟨?_, fun j hj => ?_, fun j => ?_, fun c t f e => ?_⟩⟩
  · exact h.fr.ex.trans2 k.ex (fun j hj => .inr (by omega))
  · exact (World.cell?_of_block (k.ex.block b hbl hbq)).trans (h.fr.cell j hj)
  · exact (World.frozen?_of_block (k.ex.block b hbl hbq)).trans (h.fr.fr j)
  · obtain ⟨c', f', e'⟩ := h.fr.ty c t f e
    exact ⟨c', f', (k.ex.block b hbl hbq).trans e'⟩
end
def TtPost (w : World) (b o : Nat) (best : Nat → Int) (W : Nat → Tgt) (X Y : Nat → Int) (T : Tbl) (e : Ending) (w' : World) : Prop :=
  ∃ T', e = .returned (.tuple #[]) ∧ TA w' b o T' ∧ TkI T' ∧ TickR best W X Y T T' ∧ T'.next ≤ T.next + 112 ∧ Fr b o 754 w w'
set_option maxRecDepth 100000 in
theorem wp_load93 {o : Oper} {a : Act} {w : World} {K : Act → World → Prop} {Q : Exit → Act → World → Prop} {x : Operand} {b off : Nat} {arr : Array Value} (ho : o.op = .load 93 x) (hx : a.eval x = .pointer (some ⟨b, off, none⟩))
    (hl : (loadCellsFrom ⟨b, off, none⟩ 0 640 #[]).run Try.prog w = .ok arr w) (h : K (a.put o.dst (.agg arr)) w) : Oper.wp Try.prog o a w K Q := by
  unfold Oper.wp
  have e : (execOp a.eval o).run Try.prog w = .ok (.value (.agg arr)) w := by
    have ha := Try.isAgg93 w
    have hs := Try.sizeOf93 w
    simp only [execOp, ho, hx]
    simp [Instr.loadAt, Instr.sureAddr, loadVar, loadCells, ha, hs, hl, Result.andThen]
  rw [e, Oper.upon_value]
  exact h
set_option maxRecDepth 100000 in
theorem wp_store93 {o : Oper} {a : Act} {w w' : World} {K : Act → World → Prop} {Q : Exit → Act → World → Prop} {x y : Operand} {b off : Nat} {arr : Array Value} (ho : o.op = .store 93 x y) (hx : a.eval x = .pointer (some ⟨b, off, none⟩)) (hy : a.eval y = .agg arr) (hz : arr.size = 640)
    (hl : (storeCells ⟨b, off, none⟩ arr.toList 0).run Try.prog w = .ok () w') (h : K (a.put o.dst undef) w') : Oper.wp Try.prog o a w K Q := by
  unfold Oper.wp
  have e : (execOp a.eval o).run Try.prog w = .ok .skip w' := by
    have hs := Try.sizeOf93 w
    simp only [execOp, ho, hx, hy]
    simp [Instr.storeAt, Instr.sureAddr, storeVar, hs, hl, hz, Result.andThen, Value.cells]
  rw [e, Oper.upon_skip]
  exact h
attribute [-simp] Try.isAgg93
theorem zcells {w : World} {x f j : Nat} {c d e : Ctc} (h : RA w x 0 c.vals) (k : RA w f (j * 9) e.vals) (hd : e = d) : w.cell? ⟨x, 2, none⟩ = some (.int .i64 c.seen.num) ∧ w.cell? ⟨x, 3, none⟩ = some (.int .i64 c.seen.x) ∧ w.cell? ⟨x, 4, none⟩ = some (.int .i64 c.seen.y) ∧ w.cell? ⟨x, 5, none⟩ = some (.int .i64 c.seen.co) ∧ w.cell? ⟨x, 6, none⟩ = some (.int .i64 c.seen.sp) ∧ w.cell? ⟨x, 7, none⟩ = some (.int .i64 c.seen.st) ∧ w.cell? ⟨x, 8, none⟩ = some (.int .i64 c.seen.ag) ∧ w.cell? ⟨f, j * 9 + 2, none⟩ = some (.int .i64 d.seen.num) ∧ w.cell? ⟨f, j * 9 + 3, none⟩ = some (.int .i64 d.seen.x) ∧ w.cell? ⟨f, j * 9 + 4, none⟩ = some (.int .i64 d.seen.y) ∧ w.cell? ⟨f, j * 9 + 5, none⟩ = some (.int .i64 d.seen.co) ∧ w.cell? ⟨f, j * 9 + 6, none⟩ = some (.int .i64 d.seen.sp) ∧ w.cell? ⟨f, j * 9 + 7, none⟩ = some (.int .i64 d.seen.st) ∧ w.cell? ⟨f, j * 9 + 8, none⟩ = some (.int .i64 d.seen.ag) := by
  subst hd
  obtain ⟨_, _, a2, a3, a4, a5, a6, a7, a8⟩ := h.cc
  obtain ⟨_, _, b2, b3, b4, b5, b6, b7, b8⟩ := k.cc
  simp only [Nat.zero_add] at a2 a3 a4 a5 a6 a7 a8
  exact ⟨a2, a3, a4, a5, a6, a7, a8, b2, b3, b4, b5, b6, b7, b8⟩
set_option linter.unusedSimpArgs false in
set_option maxRecDepth 100000 in
set_option maxHeartbeats 8000000 in
/-- tracks.Board.tickTeam -/
theorem tickTeam_any (w : World) (b m p tm : Nat) (htm : tm < 4) (X Y : Nat → Int) (W : Nat → Tgt) (a : Option Addr) (n c : Nat) (D : List Det) (T : Tbl)
    (h : TA w b (1 + tm * 754) T) (hk : TkI T) (hnx : T.next + 112 ≤ 1000000000) (hm : w.cell? ⟨b, 0, none⟩ = some (.pointer (some ⟨m, 0, none⟩))) (hmt : MT w m X Y) (hmb : m ≠ b)
    (hD : DA w a D) (hn : n = D.length) (hl : n ≤ 1000000) (hal : ∀ g off, a = some ⟨g, off, none⟩ → g < w.heap.size) (hW : WA w p W) (hpb : p ≠ b) (hWo : ∀ t, t < 112 → TgtOk (W t)) :
    Calls Try.prog 43 #[.pointer (some ⟨b, 0, none⟩), .int .i64 tm, .slice a n c, .pointer (some ⟨p, 0, none⟩)] w (TtPost w b (1 + tm * 754) (fuseP D tm) W X Y T) := by
  have htmi : (tm : Int) < 4 := by omega
  have HT := hide h
  have HK := hide hk
  have HMT := hide hmt
  have HD := hide hD
  have HAL := hide hal
  have HW := hide hW
  have HWO := hide hWo
  have HM := hide hm
  have HN := hide hn
  clear h hk hmt hD hal hW hWo hm hn
  obtain ⟨o, ho⟩ : ∃ o, 1 + tm * 754 = o := ⟨_, rfl⟩
  rw [ho] at HT ⊢
  have hop : 0 < o := by omega
  go_enter Try.func43, Try.ntmps43
  go_upto_region 2 with fail
  have HL := hide (show b < w.heap.size ∧ m < w.heap.size ∧ p < w.heap.size from ⟨HT.out.lt, HMT.out.lt, World.block_lt_of_cell? _ _ (HW.out 0 (by omega) 0 _ rfl)⟩)
  have HBA := hide (zero_ba w)
  have HTW := hide (TW.below (show TW w b o m p X Y W w from ⟨HM.out, HMT.out, HW.out, Fr.refl _ _ _ _⟩) (be1 w (.cells Try.zeroCells94 94)))
  have HT1 := hide (HT.out.below (be1 w (.cells Try.zeroCells94 94)))
  have HD1 := hide (HD.out.below (be1 w (.cells Try.zeroCells94 94)))
  generalize w.alloc (.cells Try.zeroCells94 94) = w1 at *
  obtain ⟨q, hq⟩ : ∃ q, w.heap.size = q := ⟨_, rfl⟩
  rw [hq] at HBA ⊢
  have hqge : w.heap.size ≤ q := by omega
  have HOF := hide (show Off a q from fun g off e => by have := HAL.out g off e; omega)
  clear hq HT HD HM HMT HW HAL
  go_wp2_with fail
  refine (fuse_any _ a n c q D tm (fun _ => 0) HD1.out HN.out hl HOF.out HBA.out).mono ?_
  rintro e w2 ⟨rfl, hba, hfr⟩
  have HTW2 := hide (HTW.out.new hfr hqge HL.out.1 HL.out.2.1 HL.out.2.2)
  have HT2 := hide (HT1.out.keep hfr (.inl (by have := HL.out.1; omega)))
  have HB2 := hide hba
  have HBR := hide (fuse_rng D tm)
  obtain ⟨best, hbest⟩ : ∃ f, fuseP D tm = f := ⟨_, rfl⟩
  rw [hbest] at HB2 HBR ⊢
  have HBE := hide hbest
  clear hba hfr hbest HTW HT1 HBA HD1 HOF
  go_upto_region 3 with fail
  go_wp2_with fail
  refine wp_load93 rfl rfl (slLoad w2 b o T.sl (fun i hi => HT2.out.sl i hi)) ?_
  have hsz := slArr_size T.sl
  go_wp2_with fail
  clear hsz
  rw [slStore w2 T.sl]
  simp only [Result.andThen]
  rw [Oper.upon_skip]
  have HO3 := hide (slBox w2 T.sl)
  have HT3 := hide (HT2.out.below (be1 w2 (.cells (slArr T.sl) 93)))
  have HTW3 := hide (HTW2.out.below (be1 w2 (.cells (slArr T.sl) 93)))
  have HB3 := hide (HB2.out.below (be1 w2 (.cells (slArr T.sl) 93)))
  have hqq : q < w2.heap.size := HB2.out.lt
  have hbb : b < w2.heap.size := HT2.out.lt
  generalize w2.alloc (.cells (slArr T.sl) 93) = w3 at *
  obtain ⟨r, hr⟩ : ∃ r, w2.heap.size = r := ⟨_, rfl⟩
  rw [hr] at HO3 hqq hbb ⊢
  have hrb : r ≠ b := by omega
  have hrq : r ≠ q := by omega
  have hqb : q ≠ b := by have := HL.out.1; omega
  clear hr HT2 HTW2 HB2
  go_wp2
  go_loopw [11, 12] (fun s11 _ wr => ∃ i : Nat, i ≤ 64 ∧ s11 = .int .i64 i ∧ TA wr b o (ph1 best W X Y T i) ∧ TW w b o m p X Y W wr ∧ BA wr q best ∧ OA wr r T.sl) (fun s11 _ _ => 64 - (intOf s11).toNat)
  case atStart => exact ⟨0, by omega, rfl, HT3.out, HTW3.out, HB3.out, HO3.out⟩
  case round =>
    clear HT3 HTW3 HB3 HO3
    obtain ⟨i, hi, rfl, hta, htw, hba, hoa⟩ := hrel
    have HT := hide hta
    have HTW := hide htw
    have HB := hide hba
    have HO := hide hoa
    clear hta htw hba hoa
    by_cases hi64 : i < 64
    · have hi64i : (i : Int) < 64 := by omega
      have HX := hide (show ph1 best W X Y T (i + 1) = if ((ph1 best W X Y T i).sl i).used then { ph1 best W X Y T i with sl := upd (ph1 best W X Y T i).sl i (obsS best W X Y ((ph1 best W X Y T i).sl i)) } else ph1 best W X Y T i from rfl)
      have HIV := hide (ph1_inv (best := best) (X := X) (Y := Y) HK.out HWO.out i hi)
      have HSL := hide (show (ph1 best W X Y T i).sl i = T.sl i by rw [ph1_sl, if_neg (by omega)])
      obtain ⟨P, hP⟩ : ∃ P, ph1 best W X Y T i = P := ⟨_, rfl⟩
      rw [hP] at HX HIV HSL HT
      clear hP
      have HAG := hide (show (P.sl i).used = true → (P.sl i).tr.ag ≤ 29 from fun u => by rw [HSL.out] at u ⊢; exact HK.out.age i hi64 u)
      have u0 := (HT.out.sl i hi64).sl.1
      have u1 := (HT.out.sl i hi64).sl.2.1
      have HSO := hide (HIV.out.ok i hi64)
      obtain ⟨s, hs⟩ : ∃ s, P.sl i = s := ⟨_, rfl⟩
      rw [hs] at u0 u1 HX HSO HAG
      have HSS := hide hs
      clear hs
      cases hu : s.used
      · rw [hu] at u0 HX
        clear hu
        go_wp2
        go_roundw
        case rel => exact ⟨i + 1, by omega, by simp, by rw [HX.out]; exact HT.out, HTW.out, HB.out, HO.out⟩
        case measure => simp [intOf]; omega
      · rw [hu] at u0 HX
        have HA9 := hide (HAG.out hu)
        have HOB := hide (show obsS best W X Y s = if 0 < best s.tg.toNat then refreshP s (W s.tg.toNat) (best s.tg.toNat) else coastP X Y s by unfold obsS; rw [if_pos hu])
        obtain ⟨tg, htg⟩ : ∃ t : Nat, s.tg = t := ⟨s.tg.toNat, by have := HSO.out.tg; omega⟩
        have htl : tg < 112 := by have := HSO.out.tg; omega
        have htli : (tg : Int) < 112 := by omega
        rw [htg] at u1 HOB
        rw [Int.toNat_natCast] at HOB
        have cb := HB.out.c tg htl
        have HRS := hide (show RA wr b (o + i * 10) s.vals by have := HT.out.sl i hi64; rw [HSS.out] at this; exact this)
        clear hu htg
        by_cases hpos : 0 < best tg
        · rw [if_pos hpos] at HOB
          have w0 := HTW.out.wa tg htl 0 _ rfl
          have w1' := HTW.out.wa tg htl 1 _ rfl
          have w2' := HTW.out.wa tg htl 2 _ rfl
          have w3' := HTW.out.wa tg htl 3 _ rfl
          rw [Nat.add_zero] at w0
          have zS := And.intro w0 (And.intro w1' (And.intro w2' (And.intro w3' cb)))
          clear w0 w1' w2' w3'
          go_upto_region 10 with fail
          refine wp_region_held_drew (S := fun w' => w'.cell? ⟨p, tg * 4, none⟩ = some (.int .i64 (W tg).x) ∧ w'.cell? ⟨p, tg * 4 + 1, none⟩ = some (.int .i64 (W tg).y) ∧ w'.cell? ⟨p, tg * 4 + 2, none⟩ = some (.int .i64 (W tg).co) ∧ w'.cell? ⟨p, tg * 4 + 3, none⟩ = some (.int .i64 (W tg).sp) ∧ w'.cell? ⟨q, tg, none⟩ = some (.int .i64 (best tg))) (by kernel_rfl) zS (fun hHeld => ?_)
          refine wpAnyH_take (i := 0) (v := ?_) rfl (by kernel_rfl) (by kernel_rfl) (by kernel_rfl) (fun _ _ _ h => h) (Or.inl ⟨by rfl, ?_⟩) (by assumption) ?_
          rotate_left
          · (intro w hSw; (try dsimp only at hSw); go_simp; try (with_reducible rfl))
          try simp only [Act.put, List.getElem_toArray, List.getElem_cons_zero, List.getElem_cons_succ, List.setIfInBounds_toArray, List.set_cons_zero, List.set_cons_succ]
          refine wpAnyH_take (i := 1) (v := ?_) rfl (by kernel_rfl) (by kernel_rfl) (by kernel_rfl) (fun _ _ _ h => h) (Or.inl ⟨by rfl, ?_⟩) (by assumption) ?_
          rotate_left
          · (intro w hSw; (try dsimp only at hSw); go_simp; try (with_reducible rfl))
          try simp only [Act.put, List.getElem_toArray, List.getElem_cons_zero, List.getElem_cons_succ, List.setIfInBounds_toArray, List.set_cons_zero, List.set_cons_succ]
          refine wpAnyH_take (i := 2) (v := ?_) rfl (by kernel_rfl) (by kernel_rfl) (by kernel_rfl) (fun _ _ _ h => h) (Or.inl ⟨by rfl, ?_⟩) (by assumption) ?_
          rotate_left
          · (intro w hSw; (try dsimp only at hSw); go_simp; try (with_reducible rfl))
          try simp only [Act.put, List.getElem_toArray, List.getElem_cons_zero, List.getElem_cons_succ, List.setIfInBounds_toArray, List.set_cons_zero, List.set_cons_succ]
          refine wpAnyH_take (i := 3) (v := ?_) rfl (by kernel_rfl) (by kernel_rfl) (by kernel_rfl) (fun _ _ _ h => h) (Or.inl ⟨by rfl, ?_⟩) (by assumption) ?_
          rotate_left
          · (intro w hSw; (try dsimp only at hSw); go_simp; try (with_reducible rfl))
          try simp only [Act.put, List.getElem_toArray, List.getElem_cons_zero, List.getElem_cons_succ, List.setIfInBounds_toArray, List.set_cons_zero, List.set_cons_succ]
          refine wpAnyH_take (i := 4) (v := ?_) rfl (by kernel_rfl) (by kernel_rfl) (by kernel_rfl) (fun _ _ _ h => h) (Or.inl ⟨by rfl, ?_⟩) (by assumption) ?_
          rotate_left
          · (intro w hSw; (try dsimp only at hSw); go_simp; try (with_reducible rfl))
          try simp only [Act.put, List.getElem_toArray, List.getElem_cons_zero, List.getElem_cons_succ, List.setIfInBounds_toArray, List.set_cons_zero, List.set_cons_succ]
          refine wpAnyH_take (i := 5) (v := ?_) rfl (by kernel_rfl) (by kernel_rfl) (by kernel_rfl) (fun _ _ _ h => h) (Or.inl ⟨by rfl, ?_⟩) (by assumption) ?_
          rotate_left
          · (intro w hSw; (try dsimp only at hSw); go_simp; try (with_reducible rfl))
          try simp only [Act.put, List.getElem_toArray, List.getElem_cons_zero, List.getElem_cons_succ, List.setIfInBounds_toArray, List.set_cons_zero, List.set_cons_succ]
          refine wpAnyH_take (i := 6) (v := ?_) rfl (by kernel_rfl) (by kernel_rfl) (by kernel_rfl) (fun _ _ _ h => h) (Or.inl ⟨by rfl, ?_⟩) (by assumption) ?_
          rotate_left
          · (intro w hSw; (try dsimp only at hSw); go_simp; try (with_reducible rfl))
          try simp only [Act.put, List.getElem_toArray, List.getElem_cons_zero, List.getElem_cons_succ, List.setIfInBounds_toArray, List.set_cons_zero, List.set_cons_succ]
          refine wpAnyH_take (i := 7) (v := ?_) rfl (by kernel_rfl) (by kernel_rfl) (by kernel_rfl) (fun _ _ _ h => h) (Or.inl ⟨by rfl, ?_⟩) (by assumption) ?_
          rotate_left
          · (intro w hSw; (try dsimp only at hSw); go_simp; try (with_reducible rfl))
          try simp only [Act.put, List.getElem_toArray, List.getElem_cons_zero, List.getElem_cons_succ, List.setIfInBounds_toArray, List.set_cons_zero, List.set_cons_succ]
          refine wpAnyH_take (i := 8) (v := ?_) rfl (by kernel_rfl) (by kernel_rfl) (by kernel_rfl) (fun _ _ _ h => h) (Or.inl ⟨by rfl, ?_⟩) (by assumption) ?_
          rotate_left
          · (intro w hSw; (try dsimp only at hSw); go_simp; try (with_reducible rfl))
          try simp only [Act.put, List.getElem_toArray, List.getElem_cons_zero, List.getElem_cons_succ, List.setIfInBounds_toArray, List.set_cons_zero, List.set_cons_succ]
          refine wpAnyH_take (i := 9) (v := ?_) rfl (by kernel_rfl) (by kernel_rfl) (by kernel_rfl) (fun _ _ _ h => h) (Or.inl ⟨by rfl, ?_⟩) (by assumption) ?_
          rotate_left
          · (intro w hSw; (try dsimp only at hSw); go_simp; try (with_reducible rfl))
          try simp only [Act.put, List.getElem_toArray, List.getElem_cons_zero, List.getElem_cons_succ, List.setIfInBounds_toArray, List.set_cons_zero, List.set_cons_succ]
          refine wpAnyH_take (i := 10) (v := ?_) rfl (by kernel_rfl) (by kernel_rfl) (by kernel_rfl) (fun _ _ _ h => h) (Or.inl ⟨by rfl, ?_⟩) (by assumption) ?_
          rotate_left
          · (intro w hSw; (try dsimp only at hSw); go_simp; try (with_reducible rfl))
          try simp only [Act.put, List.getElem_toArray, List.getElem_cons_zero, List.getElem_cons_succ, List.setIfInBounds_toArray, List.set_cons_zero, List.set_cons_succ]
          refine wpAnyH_take (i := 11) (v := ?_) rfl (by kernel_rfl) (by kernel_rfl) (by kernel_rfl) (fun _ _ _ h => h) (Or.inl ⟨by rfl, ?_⟩) (by assumption) ?_
          rotate_left
          · (intro w hSw; (try dsimp only at hSw); go_simp; try (with_reducible rfl))
          try simp only [Act.put, List.getElem_toArray, List.getElem_cons_zero, List.getElem_cons_succ, List.setIfInBounds_toArray, List.set_cons_zero, List.set_cons_succ]
          refine wpAnyH_take (i := 12) (v := ?_) rfl (by kernel_rfl) (by kernel_rfl) (by kernel_rfl) (fun _ _ _ h => h) (Or.inl ⟨by rfl, ?_⟩) (by assumption) ?_
          rotate_left
          · (intro w hSw; (try dsimp only at hSw); go_simp; try (with_reducible rfl))
          try simp only [Act.put, List.getElem_toArray, List.getElem_cons_zero, List.getElem_cons_succ, List.setIfInBounds_toArray, List.set_cons_zero, List.set_cons_succ]
          refine wpAnyH_take (i := 13) (v := ?_) rfl (by kernel_rfl) (by kernel_rfl) (by kernel_rfl) (fun _ _ _ h => h) (Or.inl ⟨by rfl, ?_⟩) (by assumption) ?_
          rotate_left
          · (intro w hSw; (try dsimp only at hSw); go_simp; try (with_reducible rfl))
          try simp only [Act.put, List.getElem_toArray, List.getElem_cons_zero, List.getElem_cons_succ, List.setIfInBounds_toArray, List.set_cons_zero, List.set_cons_succ]
          refine wpAnyH_ready (rs := [14]) (by kernel_rfl) (by simp) ?_
          refine (AllReadyH.cons rfl (fun K hK => ?_) AllReadyH.nil)
          · refine step_call rfl 57 #[.pointer (some ⟨b, o + i * 10, none⟩), .agg #[.int .i64 (W tg).x, .int .i64 (W tg).y, .int .i64 (W tg).co, .int .i64 (W tg).sp], .int .i64 (best tg)] (by simp [go_sem]) (refresh_any _ b (o + i * 10) s HRS.out.drew HSO.out (W tg) (HWO.out tg htl) (best tg)) ?_
            rintro e w4 ⟨rfl, r4, f4⟩
            replace f4 := f4.of_drew
            have HT4 := hide (HT.out.slot hi64 f4 r4)
            have HTW4 := hide (HTW.out.go (f4.mono (by omega) (by omega)) hop hmb hpb)
            have HB4 := hide (HB.out.keep f4 hqb)
            have HO4 := hide (HO.out.keep f4 hrb)
            have zS4 := And.intro (f4.ex.cell hpb zS.1) (And.intro (f4.ex.cell hpb zS.2.1) (And.intro (f4.ex.cell hpb zS.2.2.1) (And.intro (f4.ex.cell hpb zS.2.2.2.1) (f4.ex.cell hqb zS.2.2.2.2))))
            clear r4 f4
            refine ⟨_, rfl, ?_⟩
            refine hK.out _ _ ?_ (fun hHeld => ?_)
            · (first | with_reducible exact zS4 | exact zS)
            clear hK K
            try simp only [Act.put, List.getElem_toArray, List.getElem_cons_zero, List.getElem_cons_succ, List.setIfInBounds_toArray, List.set_cons_zero, List.set_cons_succ]
            refine wpAnyH_done (by kernel_rfl) ?_ _
            clear zS zS4 u0 u1 cb
            go_wp2
            go_roundw
            case rel => exact ⟨i + 1, by omega, by simp, by rw [HX.out]; (first | rw [if_pos rfl] | rw [if_pos trivial]); rw [HOB.out]; exact HT4.out, HTW4.out, HB4.out, HO4.out⟩
            case measure => simp [intOf]; omega
        · rw [if_neg hpos] at HOB
          go_wp2_with fail
          refine (coast_any _ b (o + i * 10) m X Y s HRS.out HSO.out HA9.out (by omega) HTW.out.c0 HTW.out.mt hmb).mono ?_
          rintro e w4 ⟨rfl, r4, f4⟩
          have HT4 := hide (HT.out.slot hi64 f4 r4)
          have HTW4 := hide (HTW.out.go (f4.mono (by omega) (by omega)) hop hmb hpb)
          have HB4 := hide (HB.out.keep f4 hqb)
          have HO4 := hide (HO.out.keep f4 hrb)
          clear r4 f4 u0 u1 cb
          go_wp2
          go_roundw
          case rel => exact ⟨i + 1, by omega, by simp, by rw [HX.out]; (first | rw [if_pos rfl] | rw [if_pos trivial]); rw [HOB.out]; exact HT4.out, HTW4.out, HB4.out, HO4.out⟩
          case measure => simp [intOf]; omega
    · obtain rfl : i = 64 := by omega
      rw [show ((64 : Nat) : Int) = 64 from rfl]
      go_upto_region 12 with fail
      have HPI := hide (ph1_inv (best := best) (X := X) (Y := Y) HK.out HWO.out 64 (Nat.le_refl _))
      go_wp2_with fail
      refine (settle_any _ b o r T.sl (ph1 best W X Y T 64) HT.out HO.out hrb HPI.out.ok (ph1_diff HK.out)).mono ?_
      rintro e w5 ⟨T2, rfl, hta, hse, hok2, hfr⟩
      have HSE := hide hse
      have HT5 := hide hta
      have HTW5 := hide (HTW.out.go hfr hop hmb hpb)
      have HB5 := hide (HB.out.keep hfr hqb)
      have HP2 := hide (PsI.settles (old := T.sl) ⟨HPI.out, fun k => by rw [ph1_sl]; split; exact (obs_same best W X Y _).1; rfl⟩ hse)
      clear hta hse hok2 hfr HT HTW HB HO HPI
      go_wp2
      go_loopw [13] (fun s13 wr => ∃ i : Nat, i ≤ 64 ∧ s13 = .int .i64 i ∧ TA wr b o (drR T2 i) ∧ TW w b o m p X Y W wr ∧ BA wr q best) (fun s13 _ => 64 - (intOf s13).toNat)
      case atStart => exact ⟨0, by omega, rfl, HT5.out, HTW5.out, HB5.out⟩
      case round =>
        clear HT5 HTW5 HB5
        obtain ⟨i, hi, rfl, hta, htw, hba⟩ := hrel
        have HT := hide hta
        have HTW := hide htw
        have HB := hide hba
        clear hta htw hba
        by_cases hi64 : i < 64
        · have hi64i : (i : Int) < 64 := by omega
          have HX := hide (show drR T2 (i + 1) = if ((drR T2 i).sl i).used && decide (30 ≤ ((drR T2 i).sl i).tr.ag) then relP (drR T2 i) i else drR T2 i from rfl)
          have HIV := hide (drR_inv HP2.out.inv i hi)
          obtain ⟨P, hP⟩ : ∃ P, drR T2 i = P := ⟨_, rfl⟩
          rw [hP] at HX HIV HT
          clear hP
          have u0 := (HT.out.sl i hi64).sl.1
          have u9 := (HT.out.sl i hi64).sl.2.2.2.2.2.2.2.2.2
          obtain ⟨uu, huu⟩ : ∃ u, (P.sl i).used = u := ⟨_, rfl⟩
          rw [huu] at u0 HX
          clear huu
          cases uu
          · go_wp2
            go_roundw
            case rel => exact ⟨i + 1, by omega, by simp, by rw [HX.out]; exact HT.out, HTW.out, HB.out⟩
            case measure => simp [intOf]; omega
          · by_cases hag : 30 ≤ (P.sl i).tr.ag
            · have HX2 := hide (show drR T2 (i + 1) = relP P i by rw [HX.out]; simp [hag])
              go_wp2_with fail
              refine (release_any _ b o P HT.out i hi64 (HIV.out.ok i hi64).tg (by have := HIV.out.heldR; omega)).mono ?_
              rintro e w6 ⟨rfl, t6, f6⟩
              have HT6 := hide t6
              have HTW6 := hide (HTW.out.go f6 hop hmb hpb)
              have HB6 := hide (HB.out.keep f6 hqb)
              clear t6 f6 u0 u9
              go_wp2
              go_roundw
              case rel => exact ⟨i + 1, by omega, by simp, by rw [HX2.out]; exact HT6.out, HTW6.out, HB6.out⟩
              case measure => simp [intOf]; omega
            · have HX2 := hide (show drR T2 (i + 1) = P by rw [HX.out]; simp [hag])
              go_wp2
              go_roundw
              case rel => exact ⟨i + 1, by omega, by simp, by rw [HX2.out]; exact HT.out, HTW.out, HB.out⟩
              case measure => simp [intOf]; omega
        · obtain rfl : i = 64 := by omega
          rw [show ((64 : Nat) : Int) = 64 from rfl]
          go_upto_region 19 with fail
          have HFA := hide (zero_fa wr)
          have HT7 := hide (HT.out.below (be1 wr (.cells Try.zeroCells128 128)))
          have HTW7 := hide (HTW.out.below (be1 wr (.cells Try.zeroCells128 128)))
          have HB7 := hide (HB.out.below (be1 wr (.cells Try.zeroCells128 128)))
          have hfge : w.heap.size ≤ wr.heap.size := HTW.out.fr.ex.size
          have hqf : q < wr.heap.size := HB.out.lt
          have hbf : b < wr.heap.size := HT.out.lt
          generalize wr.alloc (.cells Try.zeroCells128 128) = w7 at *
          obtain ⟨f, hf⟩ : ∃ f, wr.heap.size = f := ⟨_, rfl⟩
          rw [hf] at HFA hfge hqf hbf ⊢
          clear hf HT HTW HB
          have HIV := hide (drR_inv HP2.out.inv 64 (Nat.le_refl _))
          obtain ⟨T3, hT3⟩ : ∃ X, drR T2 64 = X := ⟨_, rfl⟩
          have HT3 := hide hT3
          rw [hT3] at HT7 HIV
          clear hT3
          go_wp2
          go_loopw [15, 16, 17, 18] (fun s15 s16 _ _ wr => ∃ (t : Nat) (F : Nat → Ctc), t ≤ 112 ∧ s16 = .int .i64 t ∧ s15 = .int .i64 (frL best W T3 t).length ∧ TA wr b o T3 ∧ TW w b o m p X Y W wr ∧ BA wr q best ∧ FA wr f F ∧ Hid (∀ (j : Nat) (c : Ctc), (frL best W T3 t)[j]? = some c → F j = c)) (fun _ s16 _ _ _ => 112 - (intOf s16).toNat)
          case atStart => exact ⟨0, fun _ => ctc0, by omega, rfl, rfl, HT7.out, HTW7.out, HB7.out, HFA.out, hide fun j c h => by simp [frL] at h⟩
          case round =>
            clear HT7 HTW7 HB7 HFA
            obtain ⟨t, F, ht, rfl, rfl, hta, htw, hba, hfa, HFL⟩ := hrel
            have HT := hide hta
            have HTW := hide htw
            have HB := hide hba
            have HFA := hide hfa
            clear hta htw hba hfa
            by_cases ht112 : t < 112
            · have ht112i : (t : Int) < 112 := by omega
              have cb := HB.out.c t ht112
              have cw := HT.out.wh t ht112
              obtain ⟨L, hL⟩ : ∃ L, frL best W T3 t = L := ⟨_, rfl⟩
              have hLl : L.length ≤ t := by rw [← hL]; exact fr_len t
              have HX := hide (show frL best W T3 (t + 1) = if best t = 0 ∨ T3.wh t ≠ -1 then frL best W T3 t else insP (newC best W t) (frL best W T3 t) from rfl)
              rw [hL] at HX HFL ⊢
              clear hL
              by_cases hb0 : best t = 0
              · have eb0 : (best t == 0) = true := by simp [hb0]
                have HX2 := hide (show frL best W T3 (t + 1) = L by rw [HX.out, if_pos (.inl hb0)])
                clear hb0
                go_wp2
                go_roundw
                case rel => exact ⟨t + 1, F, by omega, by simp, by rw [HX2.out], HT.out, HTW.out, HB.out, HFA.out, hide fun j c h => HFL.out j c (by rw [HX2.out] at h; exact h)⟩
                case measure => simp [intOf]; omega
              · have eb0 : (best t == 0) = false := by simp [hb0]
                by_cases hwh : T3.wh t = -1
                · have ewh : (T3.wh t != -1) = false := by simp [hwh]
                  have HX2 := hide (show frL best W T3 (t + 1) = insP (newC best W t) L by rw [HX.out, if_neg (by intro z; rcases z with z | z; exact hb0 z; exact z hwh)])
                  clear hwh hb0
                  go_upto_region 25 with fail
                  have HTx := hide (HT.out.below (be1 wr (.cells #[.int .i64 (t : Int), .int .i64 (best t), .int .i64 0, .int .i64 0, .int .i64 0, .int .i64 0, .int .i64 0, .int .i64 0, .int .i64 0] 127)))
                  have HTWx := hide (HTW.out.below (be1 wr (.cells #[.int .i64 (t : Int), .int .i64 (best t), .int .i64 0, .int .i64 0, .int .i64 0, .int .i64 0, .int .i64 0, .int .i64 0, .int .i64 0] 127)))
                  have HBx := hide (HB.out.below (be1 wr (.cells #[.int .i64 (t : Int), .int .i64 (best t), .int .i64 0, .int .i64 0, .int .i64 0, .int .i64 0, .int .i64 0, .int .i64 0, .int .i64 0] 127)))
                  have HFAx := hide (HFA.out.below (be1 wr (.cells #[.int .i64 (t : Int), .int .i64 (best t), .int .i64 0, .int .i64 0, .int .i64 0, .int .i64 0, .int .i64 0, .int .i64 0, .int .i64 0] 127)))
                  have HCx := hide (show RA (wr.alloc (.cells #[.int .i64 (t : Int), .int .i64 (best t), .int .i64 0, .int .i64 0, .int .i64 0, .int .i64 0, .int .i64 0, .int .i64 0, .int .i64 0] 127)) wr.heap.size 0 (Ctc.vals ⟨t, best t, trk0⟩) from new_ra wr ⟨t, best t, trk0⟩ 127)
                  have hxge : w.heap.size ≤ wr.heap.size := HTW.out.fr.ex.size
                  have hbx : b < wr.heap.size := HT.out.lt
                  have hqx : q < wr.heap.size := HB.out.lt
                  have hfx : f < wr.heap.size := HFA.out.lt
                  generalize wr.alloc (.cells #[.int .i64 (t : Int), .int .i64 (best t), .int .i64 0, .int .i64 0, .int .i64 0, .int .i64 0, .int .i64 0, .int .i64 0, .int .i64 0] 127) = w8 at *
                  obtain ⟨x, hx⟩ : ∃ x, wr.heap.size = x := ⟨_, rfl⟩
                  rw [hx] at HCx hxge hbx hqx hfx ⊢
                  clear hx HT HTW HB HFA cb cw
                  have hbx' : b ≠ x := by omega
                  have hqx' : q ≠ x := by omega
                  have hfx' : f ≠ x := by omega
                  have hpx' : p ≠ x := by have := HL.out.2.2; omega
                  have w0 := HTWx.out.wa t ht112 0 _ rfl
                  have w1' := HTWx.out.wa t ht112 1 _ rfl
                  have w2' := HTWx.out.wa t ht112 2 _ rfl
                  have w3' := HTWx.out.wa t ht112 3 _ rfl
                  rw [Nat.add_zero] at w0
                  have zS := And.intro w0 (And.intro w1' (And.intro w2' (And.intro w3' HCx.out.cc.2.1)))
                  clear w0 w1' w2' w3'
                  refine wp_region_held_drew (S := fun w' => w'.cell? ⟨p, t * 4, none⟩ = some (.int .i64 (W t).x) ∧ w'.cell? ⟨p, t * 4 + 1, none⟩ = some (.int .i64 (W t).y) ∧ w'.cell? ⟨p, t * 4 + 2, none⟩ = some (.int .i64 (W t).co) ∧ w'.cell? ⟨p, t * 4 + 3, none⟩ = some (.int .i64 (W t).sp) ∧ w'.cell? ⟨x, 1, none⟩ = some (.int .i64 (best t))) (by kernel_rfl) zS (fun hHeld => ?_)
                  refine wpAnyH_take (i := 0) (v := ?_) rfl (by kernel_rfl) (by kernel_rfl) (by kernel_rfl) (fun _ _ _ h => h) (Or.inl ⟨by rfl, ?_⟩) (by assumption) ?_
                  rotate_left
                  · (intro w hSw; (try dsimp only at hSw); go_simp; try (with_reducible rfl))
                  try simp only [Act.put, List.getElem_toArray, List.getElem_cons_zero, List.getElem_cons_succ, List.setIfInBounds_toArray, List.set_cons_zero, List.set_cons_succ]
                  refine wpAnyH_take (i := 1) (v := ?_) rfl (by kernel_rfl) (by kernel_rfl) (by kernel_rfl) (fun _ _ _ h => h) (Or.inl ⟨by rfl, ?_⟩) (by assumption) ?_
                  rotate_left
                  · (intro w hSw; (try dsimp only at hSw); go_simp; try (with_reducible rfl))
                  try simp only [Act.put, List.getElem_toArray, List.getElem_cons_zero, List.getElem_cons_succ, List.setIfInBounds_toArray, List.set_cons_zero, List.set_cons_succ]
                  refine wpAnyH_take (i := 2) (v := ?_) rfl (by kernel_rfl) (by kernel_rfl) (by kernel_rfl) (fun _ _ _ h => h) (Or.inl ⟨by rfl, ?_⟩) (by assumption) ?_
                  rotate_left
                  · (intro w hSw; (try dsimp only at hSw); go_simp; try (with_reducible rfl))
                  try simp only [Act.put, List.getElem_toArray, List.getElem_cons_zero, List.getElem_cons_succ, List.setIfInBounds_toArray, List.set_cons_zero, List.set_cons_succ]
                  refine wpAnyH_take (i := 3) (v := ?_) rfl (by kernel_rfl) (by kernel_rfl) (by kernel_rfl) (fun _ _ _ h => h) (Or.inl ⟨by rfl, ?_⟩) (by assumption) ?_
                  rotate_left
                  · (intro w hSw; (try dsimp only at hSw); go_simp; try (with_reducible rfl))
                  try simp only [Act.put, List.getElem_toArray, List.getElem_cons_zero, List.getElem_cons_succ, List.setIfInBounds_toArray, List.set_cons_zero, List.set_cons_succ]
                  refine wpAnyH_take (i := 4) (v := ?_) rfl (by kernel_rfl) (by kernel_rfl) (by kernel_rfl) (fun _ _ _ h => h) (Or.inl ⟨by rfl, ?_⟩) (by assumption) ?_
                  rotate_left
                  · (intro w hSw; (try dsimp only at hSw); go_simp; try (with_reducible rfl))
                  try simp only [Act.put, List.getElem_toArray, List.getElem_cons_zero, List.getElem_cons_succ, List.setIfInBounds_toArray, List.set_cons_zero, List.set_cons_succ]
                  refine wpAnyH_take (i := 5) (v := ?_) rfl (by kernel_rfl) (by kernel_rfl) (by kernel_rfl) (fun _ _ _ h => h) (Or.inl ⟨by rfl, ?_⟩) (by assumption) ?_
                  rotate_left
                  · (intro w hSw; (try dsimp only at hSw); go_simp; try (with_reducible rfl))
                  try simp only [Act.put, List.getElem_toArray, List.getElem_cons_zero, List.getElem_cons_succ, List.setIfInBounds_toArray, List.set_cons_zero, List.set_cons_succ]
                  refine wpAnyH_take (i := 6) (v := ?_) rfl (by kernel_rfl) (by kernel_rfl) (by kernel_rfl) (fun _ _ _ h => h) (Or.inl ⟨by rfl, ?_⟩) (by assumption) ?_
                  rotate_left
                  · (intro w hSw; (try dsimp only at hSw); go_simp; try (with_reducible rfl))
                  try simp only [Act.put, List.getElem_toArray, List.getElem_cons_zero, List.getElem_cons_succ, List.setIfInBounds_toArray, List.set_cons_zero, List.set_cons_succ]
                  refine wpAnyH_take (i := 7) (v := ?_) rfl (by kernel_rfl) (by kernel_rfl) (by kernel_rfl) (fun _ _ _ h => h) (Or.inl ⟨by rfl, ?_⟩) (by assumption) ?_
                  rotate_left
                  · (intro w hSw; (try dsimp only at hSw); go_simp; try (with_reducible rfl))
                  try simp only [Act.put, List.getElem_toArray, List.getElem_cons_zero, List.getElem_cons_succ, List.setIfInBounds_toArray, List.set_cons_zero, List.set_cons_succ]
                  refine wpAnyH_take (i := 8) (v := ?_) rfl (by kernel_rfl) (by kernel_rfl) (by kernel_rfl) (fun _ _ _ h => h) (Or.inl ⟨by rfl, ?_⟩) (by assumption) ?_
                  rotate_left
                  · (intro w hSw; (try dsimp only at hSw); go_simp; try (with_reducible rfl))
                  try simp only [Act.put, List.getElem_toArray, List.getElem_cons_zero, List.getElem_cons_succ, List.setIfInBounds_toArray, List.set_cons_zero, List.set_cons_succ]
                  refine wpAnyH_ready (rs := [9]) (by kernel_rfl) (by simp) ?_
                  refine (AllReadyH.cons rfl (fun K hK => ?_) AllReadyH.nil)
                  · refine step_call rfl 61 #[.pointer (some ⟨x, 2, none⟩), .agg #[.int .i64 (W t).x, .int .i64 (W t).y, .int .i64 (W t).co, .int .i64 (W t).sp], .int .i64 (best t)] (by simp [go_sem]) (look_any _ x 2 trk0 HCx.out.sn.drew (W t) (HWO.out t ht112) (best t)) ?_
                    rintro e w9 ⟨rfl, r9, f9⟩
                    replace f9 := f9.of_drew
                    have HC9 := hide (show RA w9 x 0 (newC best W t).vals from HCx.out.ofSn f9 r9)
                    have HT9 := hide (HTx.out.keep f9 (.inl hbx'))
                    have HTW9 := hide (HTWx.out.new f9 hxge HL.out.1 HL.out.2.1 HL.out.2.2)
                    have HB9 := hide (HBx.out.keep f9 hqx')
                    have HF9 := hide (HFAx.out.keep f9 hfx')
                    have zS9 := And.intro (f9.ex.cell hpx' zS.1) (And.intro (f9.ex.cell hpx' zS.2.1) (And.intro (f9.ex.cell hpx' zS.2.2.1) (And.intro (f9.ex.cell hpx' zS.2.2.2.1) ((f9.cell 1 (.inl (by omega))).trans zS.2.2.2.2))))
                    clear r9 f9
                    refine ⟨_, rfl, ?_⟩
                    refine hK.out _ _ ?_ (fun hHeld => ?_)
                    · (first | with_reducible exact zS9 | exact zS)
                    clear hK K
                    try simp only [Act.put, List.getElem_toArray, List.getElem_cons_zero, List.getElem_cons_succ, List.setIfInBounds_toArray, List.set_cons_zero, List.set_cons_succ]
                    refine wpAnyH_done (by kernel_rfl) ?_ _
                    clear zS zS9 HCx HTx HTWx HBx HFAx
                    obtain ⟨c, hc⟩ : ∃ c, newC best W t = c := ⟨_, rfl⟩
                    rw [hc] at HC9 HX2
                    clear hc
                    have hfb : f ≠ b := by omega
                    have hL112 : L.length < 112 := by omega
                    go_wp2
                    go_loopw [18] (fun s18 wy => ∃ (k : Nat) (F' : Nat → Ctc), k ≤ L.length ∧ s18 = .int .i64 k ∧ Hid (posP c L L.length = posP c L k) ∧ Hid (Sh F' L k) ∧ TA wy b o T3 ∧ TW w b o m p X Y W wy ∧ BA wy q best ∧ FA wy f F' ∧ RA wy x 0 c.vals) (fun s18 _ => (intOf s18).toNat)
                    case atStart => exact ⟨L.length, F, Nat.le_refl _, rfl, hide rfl, hide (Sh.start HFL.out), HT9.out, HTW9.out, HB9.out, HF9.out, HC9.out⟩
                    case round =>
                      clear HT9 HTW9 HB9 HF9 HC9
                      rename_i wy
                      obtain ⟨k, F', hkl, rfl, HPK0, HSH, hta, htw, hba, hfa, hca⟩ := hrel
                      have HT := hide hta
                      have HTW := hide htw
                      have HB := hide hba
                      have HFA := hide hfa
                      have HC := hide hca
                      clear hta htw hba hfa hca
                      by_cases hk0 : k = 0
                      · have HPK := hide (show posP c L L.length = k by rw [HPK0.out, hk0, posP])
                        have hz : decide ((0 : Int) < (k : Int)) = false := by simp; omega
                        have hzn : decide (0 < k) = false := by simp; omega
                        clear hk0
                        go_upto_region 27 with fail
                        go_quiet (fail)
                        rename_i nq
                        replace HT := hide (HT.out.drewN nq)
                        replace HTW := hide (HTW.out.below (belN _ nq))
                        replace HB := hide (HB.out.below (belN _ nq))
                        replace HFA := hide (HFA.out.drewN nq)
                        replace HC := hide (HC.out.drewN nq)
                        generalize World.drewN _ nq = w9 at *
                        clear hz hzn
                        go_upto_region 30 with fail
                        have hkl2 : k ≤ L.length := by omega
                        have HX3 := hide (show frL best W T3 (t + 1) = L.take k ++ c :: L.drop k by rw [HX2.out]; unfold insP; rw [HPK.out])
                        have HLN := hide (show (frL best W T3 (t + 1)).length = L.length + 1 by rw [HX2.out, (ins_perm _ _).length_eq, List.length_cons])
                        have hk112 : k < 112 := by omega
                        have hk112i : (k : Int) < 112 := by omega
                        obtain ⟨a0, a1, a2, a3, a4, a5, a6, a7, a8⟩ := HC.out.cc
                        simp only [Nat.zero_add] at a1 a2 a3 a4 a5 a6 a7 a8
                        obtain ⟨b0, b1, b2, b3, b4, b5, b6, b7, b8⟩ := (HFA.out k hk112).cc
                        have g0 := (HFA.out k hk112).f (k * 9)
                        have g1 := (HFA.out k hk112).f (k * 9 + 1)
                        have g2 := (HFA.out k hk112).f (k * 9 + 2)
                        have g3 := (HFA.out k hk112).f (k * 9 + 3)
                        have g4 := (HFA.out k hk112).f (k * 9 + 4)
                        have g5 := (HFA.out k hk112).f (k * 9 + 5)
                        have g6 := (HFA.out k hk112).f (k * 9 + 6)
                        have g7 := (HFA.out k hk112).f (k * 9 + 7)
                        have g8 := (HFA.out k hk112).f (k * 9 + 8)
                        go_upto_region 31 with fail
                        rw [show (((((((((w9.setCell ⟨f, k * 9, none⟩ (.int .i64 c.tg)).setCell ⟨f, k * 9 + 1, none⟩ (.int .i64 c.gr)).setCell ⟨f, k * 9 + 2, none⟩ (.int .i64 c.seen.num)).setCell ⟨f, k * 9 + 3, none⟩ (.int .i64 c.seen.x)).setCell ⟨f, k * 9 + 4, none⟩ (.int .i64 c.seen.y)).setCell ⟨f, k * 9 + 5, none⟩ (.int .i64 c.seen.co)).setCell ⟨f, k * 9 + 6, none⟩ (.int .i64 c.seen.sp)).setCell ⟨f, k * 9 + 7, none⟩ (.int .i64 c.seen.st)).setCell ⟨f, k * 9 + 8, none⟩ (.int .i64 c.seen.ag)) = w9.setCells f (k * 9) c.vals from rfl]
                        obtain ⟨fa, ff⟩ := HFA.out.fill hk112 c
                        have HFn := hide fa
                        have HTn := hide (HT.out.keep ff (.inl (Ne.symm hfb)))
                        have HTWn := hide (HTW.out.new ff hfge HL.out.1 HL.out.2.1 HL.out.2.2)
                        have HBn := hide (HB.out.keep ff (by omega))
                        clear fa ff a0 a1 a2 a3 a4 a5 a6 a7 a8 b0 b1 b2 b3 b4 b5 b6 b7 b8 g0 g1 g2 g3 g4 g5 g6 g7 g8
                        generalize w9.setCells f (k * 9) c.vals = w10 at *
                        go_wp2
                        go_roundw
                        case rel => exact ⟨t + 1, upd F' k c, by omega, by simp, by rw [HLN.out]; simp, HTn.out, HTWn.out, HBn.out, HFn.out, hide fun j d h => HSH.out.done hkl2 j d (by rw [HX3.out] at h; exact h)⟩
                        case measure => simp [intOf]; omega
                      · obtain ⟨j, hj⟩ : ∃ j, k = j + 1 := ⟨k - 1, by omega⟩
                        have hki : (0 : Int) < (k : Int) := by omega
                        have hkn : 0 < k := by omega
                        have hw1 : IntKind.i64.wrap ((k : Int) - 1) = (j : Int) := by rw [IntKind.wrap_i64]; omega
                        have hwj : IntKind.i64.wrap (j : Int) = (j : Int) := by rw [IntKind.wrap_i64]; omega
                        have hj112 : j < 112 := by omega
                        have hj112i : (j : Int) < 112 := by omega
                        have hk112 : k < 112 := by omega
                        have hk112i : (k : Int) < 112 := by omega
                        have HKJ := hide hj
                        obtain ⟨d, hd⟩ : ∃ d, L[j]? = some d := ⟨_, List.getElem?_eq_getElem (by omega)⟩
                        have HLJ := hide hd
                        have HFJ := hide (HSH.out.lo j d (by omega) hd)
                        have cb := fun w => hide (before_any w c.seen d.seen)
                        have zS := zcells HC.out (HFA.out j hj112) HFJ.out
                        clear hd hk0 hj
                        cases hbf : beforeP c.seen d.seen
                        · rw [hbf] at cb
                          have HPK := hide (show posP c L L.length = k by rw [HPK0.out, HKJ.out]; exact pos_stop HLJ.out hbf)
                          clear hbf
                          go_upto_region 27 with fail
                          refine wp_region_held_drew (S := fun w' => w'.cell? ⟨x, 2, none⟩ = some (.int .i64 c.seen.num) ∧ w'.cell? ⟨x, 3, none⟩ = some (.int .i64 c.seen.x) ∧ w'.cell? ⟨x, 4, none⟩ = some (.int .i64 c.seen.y) ∧ w'.cell? ⟨x, 5, none⟩ = some (.int .i64 c.seen.co) ∧ w'.cell? ⟨x, 6, none⟩ = some (.int .i64 c.seen.sp) ∧ w'.cell? ⟨x, 7, none⟩ = some (.int .i64 c.seen.st) ∧ w'.cell? ⟨x, 8, none⟩ = some (.int .i64 c.seen.ag) ∧ w'.cell? ⟨f, j * 9 + 2, none⟩ = some (.int .i64 d.seen.num) ∧ w'.cell? ⟨f, j * 9 + 3, none⟩ = some (.int .i64 d.seen.x) ∧ w'.cell? ⟨f, j * 9 + 4, none⟩ = some (.int .i64 d.seen.y) ∧ w'.cell? ⟨f, j * 9 + 5, none⟩ = some (.int .i64 d.seen.co) ∧ w'.cell? ⟨f, j * 9 + 6, none⟩ = some (.int .i64 d.seen.sp) ∧ w'.cell? ⟨f, j * 9 + 7, none⟩ = some (.int .i64 d.seen.st) ∧ w'.cell? ⟨f, j * 9 + 8, none⟩ = some (.int .i64 d.seen.ag)) (by kernel_rfl) zS (fun hHeld => ?_)
                          refine wpAnyH_take (i := 0) (v := ?_) rfl (by kernel_rfl) (by kernel_rfl) (by kernel_rfl) (fun _ _ _ h => h) (Or.inl ⟨by rfl, ?_⟩) (by assumption) ?_
                          rotate_left
                          · (intro w hSw; (try dsimp only at hSw); go_simp; try (with_reducible rfl))
                          try simp only [Act.put, List.getElem_toArray, List.getElem_cons_zero, List.getElem_cons_succ, List.setIfInBounds_toArray, List.set_cons_zero, List.set_cons_succ]
                          refine wpAnyH_take (i := 1) (v := ?_) rfl (by kernel_rfl) (by kernel_rfl) (by kernel_rfl) (fun _ _ _ h => h) (Or.inl ⟨by rfl, ?_⟩) (by assumption) ?_
                          rotate_left
                          · (intro w hSw; (try dsimp only at hSw); go_simp; try (with_reducible rfl))
                          try simp only [Act.put, List.getElem_toArray, List.getElem_cons_zero, List.getElem_cons_succ, List.setIfInBounds_toArray, List.set_cons_zero, List.set_cons_succ]
                          refine wpAnyH_take (i := 2) (v := ?_) rfl (by kernel_rfl) (by kernel_rfl) (by kernel_rfl) (fun _ _ _ h => h) (Or.inl ⟨by rfl, ?_⟩) (by assumption) ?_
                          rotate_left
                          · (intro w hSw; (try dsimp only at hSw); go_simp; try (with_reducible rfl))
                          try simp only [Act.put, List.getElem_toArray, List.getElem_cons_zero, List.getElem_cons_succ, List.setIfInBounds_toArray, List.set_cons_zero, List.set_cons_succ]
                          refine wpAnyH_take (i := 3) (v := ?_) rfl (by kernel_rfl) (by kernel_rfl) (by kernel_rfl) (fun _ _ _ h => h) (Or.inl ⟨by rfl, ?_⟩) (by assumption) ?_
                          rotate_left
                          · (intro w hSw; (try dsimp only at hSw); go_simp; try (with_reducible rfl))
                          try simp only [Act.put, List.getElem_toArray, List.getElem_cons_zero, List.getElem_cons_succ, List.setIfInBounds_toArray, List.set_cons_zero, List.set_cons_succ]
                          refine wpAnyH_take (i := 4) (v := ?_) rfl (by kernel_rfl) (by kernel_rfl) (by kernel_rfl) (fun _ _ _ h => h) (Or.inl ⟨by rfl, ?_⟩) (by assumption) ?_
                          rotate_left
                          · (intro w hSw; (try dsimp only at hSw); go_simp; try (with_reducible rfl))
                          try simp only [Act.put, List.getElem_toArray, List.getElem_cons_zero, List.getElem_cons_succ, List.setIfInBounds_toArray, List.set_cons_zero, List.set_cons_succ]
                          refine wpAnyH_take (i := 5) (v := ?_) rfl (by kernel_rfl) (by kernel_rfl) (by kernel_rfl) (fun _ _ _ h => h) (Or.inl ⟨by rfl, ?_⟩) (by assumption) ?_
                          rotate_left
                          · (intro w hSw; (try dsimp only at hSw); go_simp; try (with_reducible rfl))
                          try simp only [Act.put, List.getElem_toArray, List.getElem_cons_zero, List.getElem_cons_succ, List.setIfInBounds_toArray, List.set_cons_zero, List.set_cons_succ]
                          refine wpAnyH_take (i := 6) (v := ?_) rfl (by kernel_rfl) (by kernel_rfl) (by kernel_rfl) (fun _ _ _ h => h) (Or.inl ⟨by rfl, ?_⟩) (by assumption) ?_
                          rotate_left
                          · (intro w hSw; (try dsimp only at hSw); go_simp; try (with_reducible rfl))
                          try simp only [Act.put, List.getElem_toArray, List.getElem_cons_zero, List.getElem_cons_succ, List.setIfInBounds_toArray, List.set_cons_zero, List.set_cons_succ]
                          refine wpAnyH_take (i := 7) (v := ?_) rfl (by kernel_rfl) (by kernel_rfl) (by kernel_rfl) (fun _ _ _ h => h) (Or.inl ⟨by rfl, ?_⟩) (by assumption) ?_
                          rotate_left
                          · (intro w hSw; (try dsimp only at hSw); go_simp; try (with_reducible rfl))
                          try simp only [Act.put, List.getElem_toArray, List.getElem_cons_zero, List.getElem_cons_succ, List.setIfInBounds_toArray, List.set_cons_zero, List.set_cons_succ]
                          refine wpAnyH_take (i := 8) (v := ?_) rfl (by kernel_rfl) (by kernel_rfl) (by kernel_rfl) (fun _ _ _ h => h) (Or.inl ⟨by rfl, ?_⟩) (by assumption) ?_
                          rotate_left
                          · (intro w hSw; (try dsimp only at hSw); go_simp; try (with_reducible rfl))
                          try simp only [Act.put, List.getElem_toArray, List.getElem_cons_zero, List.getElem_cons_succ, List.setIfInBounds_toArray, List.set_cons_zero, List.set_cons_succ]
                          refine wpAnyH_take (i := 9) (v := ?_) rfl (by kernel_rfl) (by kernel_rfl) (by kernel_rfl) (fun _ _ _ h => h) (Or.inl ⟨by rfl, ?_⟩) (by assumption) ?_
                          rotate_left
                          · (intro w hSw; (try dsimp only at hSw); go_simp; try (with_reducible rfl))
                          try simp only [Act.put, List.getElem_toArray, List.getElem_cons_zero, List.getElem_cons_succ, List.setIfInBounds_toArray, List.set_cons_zero, List.set_cons_succ]
                          refine wpAnyH_ready (rs := [10]) (by kernel_rfl) (by simp) ?_
                          refine (AllReadyH.cons rfl (fun K hK => ?_) AllReadyH.nil)
                          · refine step_call_g (by rfl) 62 #[.agg #[.int .i64 c.seen.num, .int .i64 c.seen.x, .int .i64 c.seen.y, .int .i64 c.seen.co, .int .i64 c.seen.sp, .int .i64 c.seen.st, .int .i64 c.seen.ag], .agg #[.int .i64 d.seen.num, .int .i64 d.seen.x, .int .i64 d.seen.y, .int .i64 d.seen.co, .int .i64 d.seen.sp, .int .i64 d.seen.st, .int .i64 d.seen.ag]] (by simp [go_sem]) (cb _).out ?_
                            rintro en w9 ⟨rfl, q9⟩
                            replace q9 := of_drew q9
                            have HT2 := hide (HT.out.below q9)
                            have HTW2 := hide (HTW.out.below q9)
                            have HB2 := hide (HB.out.below q9)
                            have HFA2 := hide (HFA.out.below q9)
                            have HC2 := hide (HC.out.below (HC.out.lt (by simp [Ctc.vals])) q9)
                            have zS2 := zcells HC2.out (HFA2.out j hj112) HFJ.out
                            clear q9
                            refine ⟨_, rfl, ?_⟩
                            refine hK.out _ _ ?_ (fun hHeld => ?_)
                            · (first | with_reducible exact zS2 | exact zS)
                            clear hK K
                            try simp only [Act.put, List.getElem_toArray, List.getElem_cons_zero, List.getElem_cons_succ, List.setIfInBounds_toArray, List.set_cons_zero, List.set_cons_succ]
                            refine wpAnyH_take (i := 11) (v := ?_) rfl (by kernel_rfl) (by kernel_rfl) (by kernel_rfl) (fun _ _ _ h => h) (Or.inl ⟨by rfl, ?_⟩) (by assumption) ?_
                            rotate_left
                            · (intro w hSw; (try dsimp only at hSw); go_simp; try (with_reducible rfl))
                            try simp only [Act.put, List.getElem_toArray, List.getElem_cons_zero, List.getElem_cons_succ, List.setIfInBounds_toArray, List.set_cons_zero, List.set_cons_succ]
                            refine wpAnyH_done (by kernel_rfl) ?_ _
                            clear zS zS2 cb HT HTW HB HFA HC hk112 hk112i
                            have HT := HT2
                            have HTW := HTW2
                            have HB := HB2
                            have HFA := HFA2
                            have HC := HC2
                            clear HT2 HTW2 HB2 HFA2 HC2
                            go_upto_region 30 with fail
                            have hkl2 : k ≤ L.length := by omega
                            have HX3 := hide (show frL best W T3 (t + 1) = L.take k ++ c :: L.drop k by rw [HX2.out]; unfold insP; rw [HPK.out])
                            have HLN := hide (show (frL best W T3 (t + 1)).length = L.length + 1 by rw [HX2.out, (ins_perm _ _).length_eq, List.length_cons])
                            have hk112 : k < 112 := by omega
                            have hk112i : (k : Int) < 112 := by omega
                            obtain ⟨a0, a1, a2, a3, a4, a5, a6, a7, a8⟩ := HC.out.cc
                            simp only [Nat.zero_add] at a1 a2 a3 a4 a5 a6 a7 a8
                            obtain ⟨b0, b1, b2, b3, b4, b5, b6, b7, b8⟩ := (HFA.out k hk112).cc
                            have g0 := (HFA.out k hk112).f (k * 9)
                            have g1 := (HFA.out k hk112).f (k * 9 + 1)
                            have g2 := (HFA.out k hk112).f (k * 9 + 2)
                            have g3 := (HFA.out k hk112).f (k * 9 + 3)
                            have g4 := (HFA.out k hk112).f (k * 9 + 4)
                            have g5 := (HFA.out k hk112).f (k * 9 + 5)
                            have g6 := (HFA.out k hk112).f (k * 9 + 6)
                            have g7 := (HFA.out k hk112).f (k * 9 + 7)
                            have g8 := (HFA.out k hk112).f (k * 9 + 8)
                            go_upto_region 31 with fail
                            rw [show (((((((((w9.setCell ⟨f, k * 9, none⟩ (.int .i64 c.tg)).setCell ⟨f, k * 9 + 1, none⟩ (.int .i64 c.gr)).setCell ⟨f, k * 9 + 2, none⟩ (.int .i64 c.seen.num)).setCell ⟨f, k * 9 + 3, none⟩ (.int .i64 c.seen.x)).setCell ⟨f, k * 9 + 4, none⟩ (.int .i64 c.seen.y)).setCell ⟨f, k * 9 + 5, none⟩ (.int .i64 c.seen.co)).setCell ⟨f, k * 9 + 6, none⟩ (.int .i64 c.seen.sp)).setCell ⟨f, k * 9 + 7, none⟩ (.int .i64 c.seen.st)).setCell ⟨f, k * 9 + 8, none⟩ (.int .i64 c.seen.ag)) = w9.setCells f (k * 9) c.vals from rfl]
                            obtain ⟨fa, ff⟩ := HFA.out.fill hk112 c
                            have HFn := hide fa
                            have HTn := hide (HT.out.keep ff (.inl (Ne.symm hfb)))
                            have HTWn := hide (HTW.out.new ff hfge HL.out.1 HL.out.2.1 HL.out.2.2)
                            have HBn := hide (HB.out.keep ff (by omega))
                            clear fa ff a0 a1 a2 a3 a4 a5 a6 a7 a8 b0 b1 b2 b3 b4 b5 b6 b7 b8 g0 g1 g2 g3 g4 g5 g6 g7 g8
                            generalize w9.setCells f (k * 9) c.vals = w10 at *
                            go_wp2
                            go_roundw
                            case rel => exact ⟨t + 1, upd F' k c, by omega, by simp, by rw [HLN.out]; simp, HTn.out, HTWn.out, HBn.out, HFn.out, hide fun j d h => HSH.out.done hkl2 j d (by rw [HX3.out] at h; exact h)⟩
                            case measure => simp [intOf]; omega
                        · rw [hbf] at cb
                          have HBF := hide hbf
                          clear hbf
                          go_upto_region 27 with fail
                          refine wp_region_held_drew (S := fun w' => w'.cell? ⟨x, 2, none⟩ = some (.int .i64 c.seen.num) ∧ w'.cell? ⟨x, 3, none⟩ = some (.int .i64 c.seen.x) ∧ w'.cell? ⟨x, 4, none⟩ = some (.int .i64 c.seen.y) ∧ w'.cell? ⟨x, 5, none⟩ = some (.int .i64 c.seen.co) ∧ w'.cell? ⟨x, 6, none⟩ = some (.int .i64 c.seen.sp) ∧ w'.cell? ⟨x, 7, none⟩ = some (.int .i64 c.seen.st) ∧ w'.cell? ⟨x, 8, none⟩ = some (.int .i64 c.seen.ag) ∧ w'.cell? ⟨f, j * 9 + 2, none⟩ = some (.int .i64 d.seen.num) ∧ w'.cell? ⟨f, j * 9 + 3, none⟩ = some (.int .i64 d.seen.x) ∧ w'.cell? ⟨f, j * 9 + 4, none⟩ = some (.int .i64 d.seen.y) ∧ w'.cell? ⟨f, j * 9 + 5, none⟩ = some (.int .i64 d.seen.co) ∧ w'.cell? ⟨f, j * 9 + 6, none⟩ = some (.int .i64 d.seen.sp) ∧ w'.cell? ⟨f, j * 9 + 7, none⟩ = some (.int .i64 d.seen.st) ∧ w'.cell? ⟨f, j * 9 + 8, none⟩ = some (.int .i64 d.seen.ag)) (by kernel_rfl) zS (fun hHeld => ?_)
                          refine wpAnyH_take (i := 0) (v := ?_) rfl (by kernel_rfl) (by kernel_rfl) (by kernel_rfl) (fun _ _ _ h => h) (Or.inl ⟨by rfl, ?_⟩) (by assumption) ?_
                          rotate_left
                          · (intro w hSw; (try dsimp only at hSw); go_simp; try (with_reducible rfl))
                          try simp only [Act.put, List.getElem_toArray, List.getElem_cons_zero, List.getElem_cons_succ, List.setIfInBounds_toArray, List.set_cons_zero, List.set_cons_succ]
                          refine wpAnyH_take (i := 1) (v := ?_) rfl (by kernel_rfl) (by kernel_rfl) (by kernel_rfl) (fun _ _ _ h => h) (Or.inl ⟨by rfl, ?_⟩) (by assumption) ?_
                          rotate_left
                          · (intro w hSw; (try dsimp only at hSw); go_simp; try (with_reducible rfl))
                          try simp only [Act.put, List.getElem_toArray, List.getElem_cons_zero, List.getElem_cons_succ, List.setIfInBounds_toArray, List.set_cons_zero, List.set_cons_succ]
                          refine wpAnyH_take (i := 2) (v := ?_) rfl (by kernel_rfl) (by kernel_rfl) (by kernel_rfl) (fun _ _ _ h => h) (Or.inl ⟨by rfl, ?_⟩) (by assumption) ?_
                          rotate_left
                          · (intro w hSw; (try dsimp only at hSw); go_simp; try (with_reducible rfl))
                          try simp only [Act.put, List.getElem_toArray, List.getElem_cons_zero, List.getElem_cons_succ, List.setIfInBounds_toArray, List.set_cons_zero, List.set_cons_succ]
                          refine wpAnyH_take (i := 3) (v := ?_) rfl (by kernel_rfl) (by kernel_rfl) (by kernel_rfl) (fun _ _ _ h => h) (Or.inl ⟨by rfl, ?_⟩) (by assumption) ?_
                          rotate_left
                          · (intro w hSw; (try dsimp only at hSw); go_simp; try (with_reducible rfl))
                          try simp only [Act.put, List.getElem_toArray, List.getElem_cons_zero, List.getElem_cons_succ, List.setIfInBounds_toArray, List.set_cons_zero, List.set_cons_succ]
                          refine wpAnyH_take (i := 4) (v := ?_) rfl (by kernel_rfl) (by kernel_rfl) (by kernel_rfl) (fun _ _ _ h => h) (Or.inl ⟨by rfl, ?_⟩) (by assumption) ?_
                          rotate_left
                          · (intro w hSw; (try dsimp only at hSw); go_simp; try (with_reducible rfl))
                          try simp only [Act.put, List.getElem_toArray, List.getElem_cons_zero, List.getElem_cons_succ, List.setIfInBounds_toArray, List.set_cons_zero, List.set_cons_succ]
                          refine wpAnyH_take (i := 5) (v := ?_) rfl (by kernel_rfl) (by kernel_rfl) (by kernel_rfl) (fun _ _ _ h => h) (Or.inl ⟨by rfl, ?_⟩) (by assumption) ?_
                          rotate_left
                          · (intro w hSw; (try dsimp only at hSw); go_simp; try (with_reducible rfl))
                          try simp only [Act.put, List.getElem_toArray, List.getElem_cons_zero, List.getElem_cons_succ, List.setIfInBounds_toArray, List.set_cons_zero, List.set_cons_succ]
                          refine wpAnyH_take (i := 6) (v := ?_) rfl (by kernel_rfl) (by kernel_rfl) (by kernel_rfl) (fun _ _ _ h => h) (Or.inl ⟨by rfl, ?_⟩) (by assumption) ?_
                          rotate_left
                          · (intro w hSw; (try dsimp only at hSw); go_simp; try (with_reducible rfl))
                          try simp only [Act.put, List.getElem_toArray, List.getElem_cons_zero, List.getElem_cons_succ, List.setIfInBounds_toArray, List.set_cons_zero, List.set_cons_succ]
                          refine wpAnyH_take (i := 7) (v := ?_) rfl (by kernel_rfl) (by kernel_rfl) (by kernel_rfl) (fun _ _ _ h => h) (Or.inl ⟨by rfl, ?_⟩) (by assumption) ?_
                          rotate_left
                          · (intro w hSw; (try dsimp only at hSw); go_simp; try (with_reducible rfl))
                          try simp only [Act.put, List.getElem_toArray, List.getElem_cons_zero, List.getElem_cons_succ, List.setIfInBounds_toArray, List.set_cons_zero, List.set_cons_succ]
                          refine wpAnyH_take (i := 8) (v := ?_) rfl (by kernel_rfl) (by kernel_rfl) (by kernel_rfl) (fun _ _ _ h => h) (Or.inl ⟨by rfl, ?_⟩) (by assumption) ?_
                          rotate_left
                          · (intro w hSw; (try dsimp only at hSw); go_simp; try (with_reducible rfl))
                          try simp only [Act.put, List.getElem_toArray, List.getElem_cons_zero, List.getElem_cons_succ, List.setIfInBounds_toArray, List.set_cons_zero, List.set_cons_succ]
                          refine wpAnyH_take (i := 9) (v := ?_) rfl (by kernel_rfl) (by kernel_rfl) (by kernel_rfl) (fun _ _ _ h => h) (Or.inl ⟨by rfl, ?_⟩) (by assumption) ?_
                          rotate_left
                          · (intro w hSw; (try dsimp only at hSw); go_simp; try (with_reducible rfl))
                          try simp only [Act.put, List.getElem_toArray, List.getElem_cons_zero, List.getElem_cons_succ, List.setIfInBounds_toArray, List.set_cons_zero, List.set_cons_succ]
                          refine wpAnyH_ready (rs := [10]) (by kernel_rfl) (by simp) ?_
                          refine (AllReadyH.cons rfl (fun K hK => ?_) AllReadyH.nil)
                          · refine step_call_g (by rfl) 62 #[.agg #[.int .i64 c.seen.num, .int .i64 c.seen.x, .int .i64 c.seen.y, .int .i64 c.seen.co, .int .i64 c.seen.sp, .int .i64 c.seen.st, .int .i64 c.seen.ag], .agg #[.int .i64 d.seen.num, .int .i64 d.seen.x, .int .i64 d.seen.y, .int .i64 d.seen.co, .int .i64 d.seen.sp, .int .i64 d.seen.st, .int .i64 d.seen.ag]] (by simp [go_sem]) (cb _).out ?_
                            rintro en w9 ⟨rfl, q9⟩
                            replace q9 := of_drew q9
                            have HT2 := hide (HT.out.below q9)
                            have HTW2 := hide (HTW.out.below q9)
                            have HB2 := hide (HB.out.below q9)
                            have HFA2 := hide (HFA.out.below q9)
                            have HC2 := hide (HC.out.below (HC.out.lt (by simp [Ctc.vals])) q9)
                            have zS2 := zcells HC2.out (HFA2.out j hj112) HFJ.out
                            clear q9
                            refine ⟨_, rfl, ?_⟩
                            refine hK.out _ _ ?_ (fun hHeld => ?_)
                            · (first | with_reducible exact zS2 | exact zS)
                            clear hK K
                            try simp only [Act.put, List.getElem_toArray, List.getElem_cons_zero, List.getElem_cons_succ, List.setIfInBounds_toArray, List.set_cons_zero, List.set_cons_succ]
                            refine wpAnyH_take (i := 11) (v := ?_) rfl (by kernel_rfl) (by kernel_rfl) (by kernel_rfl) (fun _ _ _ h => h) (Or.inl ⟨by rfl, ?_⟩) (by assumption) ?_
                            rotate_left
                            · (intro w hSw; (try dsimp only at hSw); go_simp; try (with_reducible rfl))
                            try simp only [Act.put, List.getElem_toArray, List.getElem_cons_zero, List.getElem_cons_succ, List.setIfInBounds_toArray, List.set_cons_zero, List.set_cons_succ]
                            refine wpAnyH_done (by kernel_rfl) ?_ _
                            clear zS zS2 cb HT HTW HB HFA HC
                            go_upto_region 28 with fail
                            have HRJ := hide (show RA w9 f (j * 9) d.vals by have := HFA2.out j hj112; rw [HFJ.out] at this; exact this)
                            obtain ⟨a0, a1, a2, a3, a4, a5, a6, a7, a8⟩ := HRJ.out.cc
                            obtain ⟨b0, b1, b2, b3, b4, b5, b6, b7, b8⟩ := (HFA2.out k hk112).cc
                            have g0 := HRJ.out.f (k * 9)
                            have g1 := HRJ.out.f (k * 9 + 1)
                            have g2 := HRJ.out.f (k * 9 + 2)
                            have g3 := HRJ.out.f (k * 9 + 3)
                            have g4 := HRJ.out.f (k * 9 + 4)
                            have g5 := HRJ.out.f (k * 9 + 5)
                            have g6 := HRJ.out.f (k * 9 + 6)
                            have g7 := HRJ.out.f (k * 9 + 7)
                            have g8 := HRJ.out.f (k * 9 + 8)
                            go_upto_region 29 with fail
                            rw [show (((((((((w9.setCell ⟨f, k * 9, none⟩ (.int .i64 d.tg)).setCell ⟨f, k * 9 + 1, none⟩ (.int .i64 d.gr)).setCell ⟨f, k * 9 + 2, none⟩ (.int .i64 d.seen.num)).setCell ⟨f, k * 9 + 3, none⟩ (.int .i64 d.seen.x)).setCell ⟨f, k * 9 + 4, none⟩ (.int .i64 d.seen.y)).setCell ⟨f, k * 9 + 5, none⟩ (.int .i64 d.seen.co)).setCell ⟨f, k * 9 + 6, none⟩ (.int .i64 d.seen.sp)).setCell ⟨f, k * 9 + 7, none⟩ (.int .i64 d.seen.st)).setCell ⟨f, k * 9 + 8, none⟩ (.int .i64 d.seen.ag)) = w9.setCells f (k * 9) d.vals from rfl]
                            obtain ⟨fa, ff⟩ := HFA2.out.fill hk112 d
                            have HFn := hide fa
                            have HTn := hide (HT2.out.keep ff (.inl (Ne.symm hfb)))
                            have HTWn := hide (HTW2.out.new ff hfge HL.out.1 HL.out.2.1 HL.out.2.2)
                            have HBn := hide (HB2.out.keep ff (by omega))
                            have HCn := hide (HC2.out.keep ff (HC2.out.lt (by simp [Ctc.vals])) (.inl (Ne.symm hfx')))
                            clear fa ff a0 a1 a2 a3 a4 a5 a6 a7 a8 b0 b1 b2 b3 b4 b5 b6 b7 b8 g0 g1 g2 g3 g4 g5 g6 g7 g8
                            generalize w9.setCells f (k * 9) d.vals = w10 at *
                            go_wp2
                            go_roundw
                            case rel => exact ⟨j, upd F' k d, by have := HKJ.out; omega, rfl, hide (by rw [HPK0.out, HKJ.out]; exact pos_go HLJ.out HBF.out), hide (by rw [HKJ.out]; exact Sh.step (by have := HSH.out; rw [HKJ.out] at this; exact this) HLJ.out), HTn.out, HTWn.out, HBn.out, HFn.out, HCn.out⟩
                            case measure => have := HKJ.out; simp [intOf]; omega
                · have ewh : (T3.wh t != -1) = true := by simp [hwh]
                  have HX2 := hide (show frL best W T3 (t + 1) = L by rw [HX.out, if_pos (.inr hwh)])
                  clear hwh hb0
                  go_wp2
                  go_roundw
                  case rel => exact ⟨t + 1, F, by omega, by simp, by rw [HX2.out], HT.out, HTW.out, HB.out, HFA.out, hide fun j c h => HFL.out j c (by rw [HX2.out] at h; exact h)⟩
                  case measure => simp [intOf]; omega
            · obtain rfl : t = 112 := by omega
              rw [show ((112 : Nat) : Int) = 112 from rfl]
              have hLl : (frL best W T3 112).length ≤ 112 := fr_len 112
              have HCO := hide (fr_ok (T := T3) HBR.out HWO.out)
              have HAD := hide (fr_adI (best := best) (W := W) HIV.out (by rw [← HT3.out, drR_next, settles_next HSE.out, (ph1_rest 64).2.2]; exact hnx))
              have HNX := hide (show T3.next = T.next by rw [← HT3.out, drR_next, settles_next HSE.out, (ph1_rest 64).2.2])
              have HAA := hide (fun T' (ad : AdmAll (frL best W T3 112) 0 T3 T') => (show TickR best W X Y T T' from ⟨T2, HSE.out, by rw [HT3.out]; exact ad⟩))
              have HCA := hide (show CA wr f (frL best W T3 112) from fun i c hc j v hv => (HFA.out i (by have := (List.getElem?_eq_some_iff.1 hc).1; omega)).c j v (by rw [HFL.out i c hc]; exact hv))
              have hfb : f ≠ b := by omega
              obtain ⟨L, hL⟩ : ∃ L, frL best W T3 112 = L := ⟨_, rfl⟩
              rw [hL] at HCO HAD HAA HCA hLl ⊢
              clear hL HFL HFA HB
              obtain ⟨n1, hn1⟩ : ∃ n, L.length = n := ⟨_, rfl⟩
              rw [hn1] at hLl ⊢
              have hLli : (n1 : Int) ≤ 112 := by omega
              have HN1 := hide hn1
              clear hn1
              go_wp2_with fail
              refine (admitAll_any _ b o f n1 112 L T3 HT.out HCA.out hfb HN1.out.symm HCO.out HAD.out).mono ?_
              rintro e w9 ⟨T', rfl, ta, iv, ad, nx, fr⟩
              have hti := HAA.out T' ad
              have hnx' := HNX.out
              have HPO := hide (show TtPost w b o best W X Y T (.returned (.tuple #[])) w9 from ⟨T', rfl, ta, ⟨iv, tick_age hti⟩, hti, by omega, HTW.out.fr.trans fr⟩)
              clear ta iv ad nx fr hti hnx'
              go_wp2
              exact bodyPost_ret (v := .tuple #[]) (by simp [results, Try.results43, go_sem]) rfl (by rw [HBE.out]; exact HPO.out)
end Go.Proofs.Qxb6500777a
