import Derived.Test.Qxb6500777aFus
namespace Go.Proofs.Qxb6500777a
open Go.RowKit

/-- A new contact. -/
structure Ctc where
  tg : Int
  gr : Int
  seen : Trk
deriving DecidableEq
def Ctc.vals (c : Ctc) : List Value := [.int .i64 c.tg, .int .i64 c.gr, .int .i64 c.seen.num, .int .i64 c.seen.x, .int .i64 c.seen.y, .int .i64 c.seen.co, .int .i64 c.seen.sp, .int .i64 c.seen.st, .int .i64 c.seen.ag]
theorem Ctc.len (c : Ctc) : c.vals.length = 9 := rfl
structure CtcOk (c : Ctc) : Prop where
  tg : 0 ≤ c.tg ∧ c.tg < 112
  gr : 1 ≤ c.gr ∧ c.gr ≤ 3
  ok : TrkOk c.seen
  st : c.seen.st = 0
/-- The slot of a new track. -/
def newS (T : Tbl) (c : Ctc) : Slt := creditP ⟨true, c.tg, 0, { c.seen with num := T.next }⟩ c.gr
def admitP (T : Tbl) (i : Nat) (c : Ctc) : Tbl := { sl := upd T.sl i (newS T c), wh := upd T.wh c.tg.toNat i, held := T.held + 1, next := T.next + 1 }
theorem c0_ok {T : Tbl} {c : Ctc} (h : CtcOk c) (hn : 0 ≤ T.next ∧ T.next ≤ 1000000000) : SltOk ⟨true, c.tg, 0, { c.seen with num := T.next }⟩ :=
  ⟨h.tg, ⟨by dsimp only; omega, by dsimp only; have := h.st; omega⟩, ⟨hn, h.ok.x, h.ok.y, h.ok.co, h.ok.sp, h.ok.st, h.ok.ag⟩⟩
theorem RA.fillT {w : World} {b o : Nat} {s : Slt} (h : RA w b o s.vals) (t : Trk) : RA (w.setCells b (o + 3) t.vals) b o { s with tr := t }.vals ∧ Fr b o 10 w (w.setCells b (o + 3) t.vals) :=
  ⟨h.ofTr (Fr.sets t.vals _ _ (Fr.refl _ _ _ _) (Nat.le_refl _) (by rw [Trk.len]; omega)) (h.tr.fill rfl), Fr.sets t.vals _ _ (Fr.refl _ _ _ _) (by omega) (by rw [Trk.len]; omega)⟩
set_option linter.unusedSimpArgs false in
set_option maxRecDepth 100000 in
set_option maxHeartbeats 4000000 in
/-- tracks.table.admit -/
theorem admit_any (w : World) (b o : Nat) (T : Tbl) (h : TA w b o T) (c : Ctc) (hc : CtcOk c) (i : Nat) (hi : i < 64) (hs : T.sl i = slt0) (hu : ∀ k, k < i → (T.sl k).used = true) (hn : 0 ≤ T.next ∧ T.next ≤ 1000000000) (hh : -1000 ≤ T.held ∧ T.held ≤ 1000) :
    Calls Try.prog 82 #[.pointer (some ⟨b, o, none⟩), .agg #[.int .i64 c.tg, .int .i64 c.gr, .int .i64 c.seen.num, .int .i64 c.seen.x, .int .i64 c.seen.y, .int .i64 c.seen.co, .int .i64 c.seen.sp, .int .i64 c.seen.st, .int .i64 c.seen.ag]] w (TPo w b o (admitP T i c)) := by
  have HT := hide (h.below (be1 w (.cells #[.int .i64 c.tg, .int .i64 c.gr, .int .i64 c.seen.num, .int .i64 c.seen.x, .int .i64 c.seen.y, .int .i64 c.seen.co, .int .i64 c.seen.sp, .int .i64 c.seen.st, .int .i64 c.seen.ag] 127)))
  have HF := hide (show Fr b o 754 w (w.alloc (.cells #[.int .i64 c.tg, .int .i64 c.gr, .int .i64 c.seen.num, .int .i64 c.seen.x, .int .i64 c.seen.y, .int .i64 c.seen.co, .int .i64 c.seen.sp, .int .i64 c.seen.st, .int .i64 c.seen.ag] 127)) from (Fr.refl _ _ _ _).alloc h.lt _)
  have hpb : w.heap.size ≠ b := by have := h.lt; omega
  have zC : ∀ j v, c.vals[j]? = some v → (w.alloc (.cells #[.int .i64 c.tg, .int .i64 c.gr, .int .i64 c.seen.num, .int .i64 c.seen.x, .int .i64 c.seen.y, .int .i64 c.seen.co, .int .i64 c.seen.sp, .int .i64 c.seen.st, .int .i64 c.seen.ag] 127)).cell? ⟨w.heap.size, j, none⟩ = some v := fun j v hv => by
    have := new_cells w c.vals 127 j v hv
    rw [show (⟨w.heap.size, 0, none⟩ : Addr).add j = ⟨w.heap.size, j, none⟩ by unfold Addr.add; split <;> simp_all] at this
    exact this
  have HC := hide hc
  have HS := hide hs
  have HU := hide hu
  have hii : (i : Int) < 64 := by omega
  obtain ⟨n0, n1⟩ := hn
  obtain ⟨hh0, hh1⟩ := hh
  obtain ⟨tg, htg⟩ : ∃ t : Nat, c.tg = t := ⟨c.tg.toNat, by have := hc.tg; omega⟩
  have htl : tg < 112 := by have := hc.tg; omega
  have htli : (tg : Int) < 112 := by omega
  have HTG := hide htg
  clear h hc hs hu htg
  go_enter Try.func82, Try.ntmps82
  go_upto_region 1 with fail
  generalize w.alloc (.cells #[.int .i64 c.tg, .int .i64 c.gr, .int .i64 c.seen.num, .int .i64 c.seen.x, .int .i64 c.seen.y, .int .i64 c.seen.co, .int .i64 c.seen.sp, .int .i64 c.seen.st, .int .i64 c.seen.ag] 127) = w1 at *
  obtain ⟨p, hp⟩ : ∃ p, w.heap.size = p := ⟨_, rfl⟩
  rw [hp] at hpb zC ⊢
  have HZ := hide zC
  clear hp zC
  go_wp2
  go_loop [4] (fun s4 => ∃ k : Nat, k ≤ i ∧ s4 = .int .i64 k) (fun s4 => i - (intOf s4).toNat)
  case atStart => exact ⟨0, by omega, rfl⟩
  case round =>
    obtain ⟨k, hk, rfl⟩ := hrel
    by_cases hki : k < i
    · have u0 := (HT.out.sl k (by omega)).sl.1
      rw [HU.out k hki] at u0
      have hk64 : (k : Int) < 64 := by omega
      go_wp2
      go_round
      case rel => exact ⟨k + 1, by omega, by go_num⟩
      case measure => simp [intOf]; omega
    · obtain rfl : k = i := by omega
      have r0 := HT.out.sl k hi
      rw [HS.out] at r0
      have HR0 := hide r0
      clear r0
      obtain ⟨a0, a1, a2, a3, a4, a5, a6, a7, a8, a9⟩ := HR0.out.sl
      have f0 := HR0.out.f (o + k * 10)
      have z0 := HZ.out 0 _ rfl
      rw [HTG.out] at z0
      have f1 := HR0.out.f (o + k * 10 + 1)
      go_upto_region 7 with fail
      have HR2 := hide (show RA ((w1.setCell ⟨b, o + k * 10, none⟩ (.bool true)).setCell ⟨b, o + k * 10 + 1, none⟩ (.int .i64 (tg : Int))) b (o + k * 10) (Slt.vals ⟨true, tg, 0, trk0⟩) from (HR0.out.put (k := 0) (.bool true) (by rw [Slt.len]; omega)).put (k := 1) (.int .i64 (tg : Int)) (by rw [List.length_set, Slt.len]; omega))
      have HQ2 := hide (((Fr.refl b (o + k * 10) 10 w1).set (j := o + k * 10) (by omega) (by omega) (.bool true)).set (j := o + k * 10 + 1) (by omega) (by omega) (.int .i64 (tg : Int)))
      generalize (w1.setCell ⟨b, o + k * 10, none⟩ (.bool true)).setCell ⟨b, o + k * 10 + 1, none⟩ (.int .i64 (tg : Int)) = w2 at *
      clear a0 a1 a2 a3 a4 a5 a6 a7 a8 a9 f0 f1 z0
      obtain ⟨a0, a1, a2, a3, a4, a5, a6, a7, a8, a9⟩ := HR2.out.sl
      have z2 := HQ2.out.ex.cell hpb (HZ.out 2 _ rfl)
      have z3 := HQ2.out.ex.cell hpb (HZ.out 3 _ rfl)
      have z4 := HQ2.out.ex.cell hpb (HZ.out 4 _ rfl)
      have z5 := HQ2.out.ex.cell hpb (HZ.out 5 _ rfl)
      have z6 := HQ2.out.ex.cell hpb (HZ.out 6 _ rfl)
      have z7 := HQ2.out.ex.cell hpb (HZ.out 7 _ rfl)
      have z8 := HQ2.out.ex.cell hpb (HZ.out 8 _ rfl)
      have f3 := HR2.out.f (o + k * 10 + 3)
      have f4 := HR2.out.f (o + k * 10 + 4)
      have f5 := HR2.out.f (o + k * 10 + 5)
      have f6 := HR2.out.f (o + k * 10 + 6)
      have f7 := HR2.out.f (o + k * 10 + 7)
      have f8 := HR2.out.f (o + k * 10 + 8)
      have f9 := HR2.out.f (o + k * 10 + 9)
      go_upto_region 8 with fail
      have hset : (((((((w2.setCell ⟨b, o + k * 10 + 3, none⟩ (.int .i64 c.seen.num)).setCell ⟨b, o + k * 10 + 4, none⟩ (.int .i64 c.seen.x)).setCell ⟨b, o + k * 10 + 5, none⟩ (.int .i64 c.seen.y)).setCell ⟨b, o + k * 10 + 6, none⟩ (.int .i64 c.seen.co)).setCell ⟨b, o + k * 10 + 7, none⟩ (.int .i64 c.seen.sp)).setCell ⟨b, o + k * 10 + 8, none⟩ (.int .i64 c.seen.st)).setCell ⟨b, o + k * 10 + 9, none⟩ (.int .i64 c.seen.ag)) = w2.setCells b (o + k * 10 + 3) c.seen.vals := rfl
      rw [hset]
      clear hset a0 a1 a2 a3 a4 a5 a6 a7 a8 a9 z2 z3 z4 z5 z6 z7 z8 f3 f4 f5 f6 f7 f8 f9
      have HR3 := hide (HR2.out.fillT c.seen).1
      have HQ3 := hide (HQ2.out.trans (HR2.out.fillT c.seen).2)
      generalize w2.setCells b (o + k * 10 + 3) c.seen.vals = w3 at *
      have HN3 := hide (show w3.cell? ⟨b, o + 753, none⟩ = some (.int .i64 T.next) from (HQ3.out.cell _ (by omega)).trans HT.out.next)
      have cn := HN3.out
      have a3 := HR3.out.sl.2.2.2.1
      have f3 := HR3.out.f (o + k * 10 + 3)
      go_upto_region 9 with fail
      have HR4 := hide (show RA (w3.setCell ⟨b, o + k * 10 + 3, none⟩ (.int .i64 T.next)) b (o + k * 10) (Slt.vals ⟨true, tg, 0, { c.seen with num := T.next }⟩) from HR3.out.put (k := 3) (.int .i64 T.next) (by rw [Slt.len]; omega))
      have HQ4 := hide (HQ3.out.set (j := o + k * 10 + 3) (by omega) (by omega) (.int .i64 T.next))
      have hadd : o + k * 10 + 3 + 0 = o + k * 10 + 3 := rfl
      (try rw [hadd])
      generalize w3.setCell ⟨b, o + k * 10 + 3, none⟩ (.int .i64 T.next) = w4 at *
      clear cn a3 f3 hadd HR3 HQ3 HN3
      have z1 := HQ4.out.ex.cell hpb (HZ.out 1 _ rfl)
      go_wp2_with fail
      refine (credit_any _ b (o + k * 10) ⟨true, tg, 0, { c.seen with num := T.next }⟩ HR4.out (by rw [← HTG.out]; exact c0_ok HC.out ⟨n0, n1⟩) c.gr).mono ?_
      rintro e w5 ⟨rfl, r5, q5⟩
      have HQ5 := hide (HQ4.out.trans q5)
      have HT5 := hide (HT.out.slot hi HQ5.out r5)
      have HF5 := hide (HF.out.trans (HQ5.out.mono (by omega) (by omega)))
      have z0 := HQ5.out.ex.cell hpb (HZ.out 0 _ rfl)
      rw [HTG.out] at z0
      clear z1 r5 q5 HR4 HQ4
      have cw := HT5.out.wh tg htl
      have fw := HT5.out.f (o + 640 + tg)
      go_upto_region 10 with fail
      refine wp_region_held_drew (S := fun w' => w'.cell? ⟨p, 0, none⟩ = some (.int .i64 (tg : Int))) (by kernel_rfl) z0 (fun hHeld => ?_)
      refine wpAnyH_take (i := 0) (v := ?_) rfl (by kernel_rfl) (by kernel_rfl) (by kernel_rfl) (fun _ _ _ h => h) (Or.inl ⟨by rfl, ?_⟩) (by assumption) ?_
      rotate_left
      · (intro w hSw; (try dsimp only at hSw); go_simp; try (with_reducible rfl))
      try simp only [Act.put, List.getElem_toArray, List.getElem_cons_zero, List.getElem_cons_succ, List.setIfInBounds_toArray, List.set_cons_zero, List.set_cons_succ]
      refine wpAnyH_take (i := 1) (v := ?_) rfl (by kernel_rfl) (by kernel_rfl) (by kernel_rfl) (fun _ _ _ h => h) (Or.inl ⟨by rfl, ?_⟩) (by assumption) ?_
      rotate_left
      · (intro w hSw; (try dsimp only at hSw); go_simp; try (with_reducible rfl))
      try simp only [Act.put, List.getElem_toArray, List.getElem_cons_zero, List.getElem_cons_succ, List.setIfInBounds_toArray, List.set_cons_zero, List.set_cons_succ]
      refine wpAnyH_take (i := 2) (v := ?_) rfl (by kernel_rfl) (by kernel_rfl) (by kernel_rfl) (fun _ _ _ h => h) (Or.inl ⟨by rfl, ?_⟩) (by assumption) ?_
      rotate_left
      · (intro w hSw; (try dsimp only at hSw); go_simp; try (with_reducible rfl))
      try simp only [Act.put, List.getElem_toArray, List.getElem_cons_zero, List.getElem_cons_succ, List.setIfInBounds_toArray, List.set_cons_zero, List.set_cons_succ]
      refine wpAnyH_take (i := 3) (v := ?_) rfl (by kernel_rfl) (by kernel_rfl) (by kernel_rfl) (fun _ _ _ h => h) (Or.inl ⟨by rfl, ?_⟩) (by assumption) ?_
      rotate_left
      · (intro w hSw; (try dsimp only at hSw); go_simp; try (with_reducible rfl))
      try simp only [Act.put, List.getElem_toArray, List.getElem_cons_zero, List.getElem_cons_succ, List.setIfInBounds_toArray, List.set_cons_zero, List.set_cons_succ]
      refine wpAnyH_take (i := 4) (v := ?_) rfl (by kernel_rfl) (by kernel_rfl) (by kernel_rfl) (fun _ _ _ h => h) (Or.inl ⟨by rfl, ?_⟩) (by assumption) ?_
      rotate_left
      · (intro w hSw; (try dsimp only at hSw); go_simp; try (with_reducible rfl))
      try simp only [Act.put, List.getElem_toArray, List.getElem_cons_zero, List.getElem_cons_succ, List.setIfInBounds_toArray, List.set_cons_zero, List.set_cons_succ]
      refine wpAnyH_take (i := 5) (v := ?_) rfl (by kernel_rfl) (by kernel_rfl) (by kernel_rfl) (fun _ _ _ h => h) (Or.inl ⟨by rfl, ?_⟩) (by assumption) ?_
      rotate_left
      · (intro w hSw; (try dsimp only at hSw); go_simp; try (with_reducible rfl))
      try simp only [Act.put, List.getElem_toArray, List.getElem_cons_zero, List.getElem_cons_succ, List.setIfInBounds_toArray, List.set_cons_zero, List.set_cons_succ]
      refine wpAnyH_take (i := 6) (v := ?_) rfl (by kernel_rfl) (by kernel_rfl) (by kernel_rfl) (fun _ _ _ h => h) (Or.inl ⟨by rfl, ?_⟩) (by assumption) ?_
      rotate_left
      · (intro w hSw; (try dsimp only at hSw); go_simp; try (with_reducible rfl))
      try simp only [Act.put, List.getElem_toArray, List.getElem_cons_zero, List.getElem_cons_succ, List.setIfInBounds_toArray, List.set_cons_zero, List.set_cons_succ]
      refine wpAnyH_ready (rs := [7]) (by kernel_rfl) (by simp) ?_
      refine (AllReadyH.cons rfl (fun K hK => ?_) AllReadyH.nil)
      · go_simp
        have hS6 : (w5.setCell ⟨b, o + 640 + tg, none⟩ (.int .i64 (k : Int))).drew.cell? ⟨p, 0, none⟩ = some (.int .i64 (tg : Int)) := (set_cell_ne _ _ _ _ _ _ hpb).trans z0
        clear cw fw
        have HT6 := hide ((HT5.out.setWh htl k).drew)
        have HF6 := hide ((HF5.out.set (j := o + 640 + tg) (by omega) (by omega) (.int .i64 (k : Int))).drew)
        generalize (w5.setCell ⟨b, o + 640 + tg, none⟩ (.int .i64 (k : Int))).drew = w6 at *
        refine hK.out _ _ ?_ (fun hHeld => ?_)
        · (first | with_reducible exact hS6 | exact z0)
        clear hK K
        try simp only [Act.put, List.getElem_toArray, List.getElem_cons_zero, List.getElem_cons_succ, List.setIfInBounds_toArray, List.set_cons_zero, List.set_cons_succ]
        refine wpAnyH_done (by kernel_rfl) ?_ _
        have cn := HT6.out.next
        have fn := HT6.out.f (o + 753)
        dsimp only at cn
        go_upto_region 12 with fail
        have HT7 := hide (HT6.out.setNext (T.next + 1))
        have HF7 := hide (HF6.out.set (j := o + 753) (by omega) (by omega) (.int .i64 (T.next + 1)))
        generalize w6.setCell ⟨b, o + 753, none⟩ (.int .i64 (T.next + 1)) = w7 at *
        clear cn fn
        have ch := HT7.out.held
        have fh := HT7.out.f (o + 752)
        dsimp only at ch
        have HT8 := hide (HT7.out.setHeld (T.held + 1))
        have HF8 := hide (HF7.out.set (j := o + 752) (by omega) (by omega) (.int .i64 (T.held + 1)))
        go_wp2
        refine bodyPost_ret (v := .tuple #[]) (by simp [results, Try.results82, go_sem]) rfl ⟨rfl, ?_, HF8.out⟩
        have e : admitP T k c = { sl := upd T.sl k (creditP ⟨true, tg, 0, { c.seen with num := T.next }⟩ c.gr), wh := upd T.wh tg k, held := T.held + 1, next := T.next + 1 } := by unfold admitP newS; rw [HTG.out]; rfl
        rw [e]
        exact HT8.out
end Go.Proofs.Qxb6500777a
