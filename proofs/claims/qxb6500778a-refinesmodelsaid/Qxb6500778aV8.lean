import Derived.Test.Qxb6500778aV7
import Derived.Test.Qxb6500778aD3
import Derived.Test.Qxb6500778aOv0
namespace Go.Proofs.Qxb6500778a
open Go.RowKit

theorem below_cell {B g j : Nat} {w w' : World} {v : Value} (h : Below B w w') (hg : g < B) (hc : w.cell? ⟨g, j, none⟩ = some v) : w'.cell? ⟨g, j, none⟩ = some v := by
  have e : Ex (fun k => B ≤ k) w w' := ⟨h.os, h.tape, h.output, h.size, fun k hk hn => h.block k (by omega)⟩
  exact e.cell (by omega) hc
def nilF : Nat → Value := fun _ => .slice none 0 0
def ses0 : List Value := mnC mn0 nilF nilF ++ .slice none 0 0 :: (mnC mn0 nilF nilF ++ [.bool false])
theorem Try.z37 : Try.zeroCells37 = ses0.toArray := by kernel_rfl
theorem rin_nil {k : Nat} : ¬ RIn nilF nilF k := fun ⟨d, _, h⟩ => by
  rcases h with h | h <;> cases h
theorem sq_zero (w : World) : SQ (w.alloc (.cells Try.zeroCells37 37)) w.heap.size ⟨mn0, [], mn0, false⟩ nilF nilF nilF nilF (.slice none 0 0) := by
  rw [Try.z37]
  have c := fun j u hj => new_cells w ses0 37 j u hj
  have l := mnC_len mn0 nilF nilF
  have hmv : ∀ W : World, MV W mn0 nilF nilF := fun W => ⟨fun d _ => World.ownsRow_nil _ _ _ _, fun d _ => World.ownsRow_nil _ _ _ _⟩
  have ce : ∀ j u, ses0[j]? = some u → (w.alloc (.cells ses0.toArray 37)).cell? ⟨w.heap.size, j, none⟩ = some u := fun j u hj => by
    have := c j u hj
    rwa [Addr.add_mid, Nat.zero_add] at this
  refine ⟨(hmv _).ma (fun j u hj => ce _ u ?_), ce 304 _ ?_, (hmv _).ma (fun j u hj => ce _ u ?_), ce 609 _ ?_, World.ownsRow_nil _ _ _ _, fun j => by simp [go_sem], fun k hk => absurd hk rin_nil, fun k hk => absurd hk rin_nil, fun d _ => (by show ([] : List Rt).length + ([] : List Rl).length ≤ 64; simp), fun d _ => (by show ([] : List Rt).length + ([] : List Rl).length ≤ 64; simp)⟩
  · have hjl := (List.getElem?_eq_some_iff.1 hj).1
    rw [Nat.zero_add]
    unfold ses0
    rw [List.getElem?_append_left hjl]
    exact hj
  · unfold ses0
    rw [List.getElem?_append_right (by rw [l]; exact Nat.le_refl _), l]
    rfl
  · have hjl := (List.getElem?_eq_some_iff.1 hj).1
    unfold ses0
    rw [List.getElem?_append_right (by rw [l]; omega), l, show 305 + j - 304 = j + 1 by omega, List.getElem?_cons_succ, List.getElem?_append_left hjl]
    exact hj
  · unfold ses0
    rw [List.getElem?_append_right (by rw [l]; omega), l, show 609 - 304 = 304 + 1 from rfl, List.getElem?_cons_succ, List.getElem?_append_right (by rw [l]; exact Nat.le_refl _), l]
    rfl
set_option linter.unusedSimpArgs false in
set_option maxRecDepth 100000 in
set_option maxHeartbeats 32000000 in
theorem ref_walk (w : World) (a : Option Addr) (n cap : Nat) (f : Nat → Stp) (hn : n ≤ 9223372036854775807) (ho : OSB w a n f) :
    Calls Try.prog 3 #[.slice a n cap] w fun e w' => e = .returned (.bool true) ∧ Below w.heap.size w w' := by
  have HO := hide ho
  clear ho
  go_enter Try.func3, Try.ntmps3
  go_wp2_with fail
  refine (small_anyS _ a n cap f hn HO.out).mono ?_
  rintro e w' ⟨bb, rfl, rfl, hsm⟩
  cases bb
  · go_wp2
    go_ret
    exact ⟨rfl, Below.refl _ _⟩
  obtain ⟨hn6, htx⟩ := hsm rfl
  have HTX := hide htx
  clear hsm htx
  go_wp2_with fail
  refine (newSession_any _).mono ?_
  rintro e w1 ⟨rfl, hex1, hss1⟩
  go_upto_region 5 with fail
  have HQ0 := hide (sq_zero w1)
  have E1 : Ex (fun _ => False) w1 (w1.alloc (.cells Try.zeroCells37 37)) := (Ex.refl _ w1).alloc _
  have HS0 := hide (hss1.new E1)
  have HBL0 : Hid (Below w'.heap.size w' (w1.alloc (.cells Try.zeroCells37 37))) := (hex1.trans E1).below (Nat.le_refl _) (fun _ _ z => z)
  have hsz1 : w'.heap.size ≤ w1.heap.size := hex1.size
  have HAL : Hid (∀ k, ARb (w'.heap.size + 1) w'.heap.size (fun _ => .slice none 0 0) (fun _ => .slice none 0 0) (.slice none 0 0) (.slice none 0 0) k → k < w1.heap.size ∧ w'.heap.size ≤ k) := fun k hk => by
    refine ⟨hss1.all_lt hk, ?_⟩
    rcases hk with hk | hk | hk | hk
    · omega
    · rcases hk with hk | ⟨d, _, hk | hk⟩
      · omega
      · cases hk
      · cases hk
    · cases hk
    · cases hk
  have HBQ : Hid (∀ k, BQb w1.heap.size nilF nilF nilF nilF (.slice none 0 0) k → k = w1.heap.size) := fun k hk => by
    rcases hk with hk | hk | hk | hk
    · exact hk
    · exact absurd hk rin_nil
    · exact absurd hk rin_nil
    · cases hk
  have HJ0 : Hid (JS (w1.alloc (.cells Try.zeroCells37 37)) (w'.heap.size + 1) w'.heap.size sn0 (fun _ => .slice none 0 0) (fun _ => .slice none 0 0) (.slice none 0 0) (.slice none 0 0) w1.heap.size ⟨mn0, [], mn0, false⟩ nilF nilF nilF nilF (.slice none 0 0) w'.heap.size) :=
    ⟨HS0.out, HQ0.out, fun k h1 h2 => by have := (HAL.out k h1).1; have := HBQ.out k h2; omega, fun k hk => (HAL.out k hk).2, fun k hk => by have := HBQ.out k hk; omega, by have := E1.size; omega⟩
  clear hss1 hex1 E1 HQ0 HS0 HAL HBQ hsz1
  generalize w1.alloc (.cells Try.zeroCells37 37) = W1 at *
  obtain ⟨q, hq⟩ : ∃ q, w1.heap.size = q := ⟨_, rfl⟩
  obtain ⟨s, hs⟩ : ∃ s, w'.heap.size + 1 = s := ⟨_, rfl⟩
  obtain ⟨b, hb⟩ : ∃ b, w'.heap.size = b := ⟨_, rfl⟩
  obtain ⟨B0, hB0⟩ : ∃ b, w'.heap.size = b := ⟨_, rfl⟩
  have HB0 := hide hB0
  rw [hq, hs] at HJ0 ⊢
  have HJ1 : Hid (JS W1 s b sn0 (fun _ => .slice none 0 0) (fun _ => .slice none 0 0) (.slice none 0 0) (.slice none 0 0) q ⟨mn0, [], mn0, false⟩ nilF nilF nilF nilF (.slice none 0 0) B0) := by rw [← hb, ← hB0]; exact HJ0.out
  have HBL1 : Hid (Below B0 w' W1) := by rw [← hB0]; exact HBL0.out
  clear HJ0 HBL0 hq hs hb hB0
  try generalize Value.agg Try.zeroCells37 = ZV at *
  go_wp2_with fail
  go_loopw [5] (fun s5 wr => ∃ (k : Nat) (x : Sn) (y : SM) (vr va : Nat → Value) (sv uv : Value) (xr xa zr za : Nat → Value) (tv : Value), s5 = .int .i64 k ∧ k ≤ n ∧ Hid (JS wr s b x vr va sv uv q y xr xa zr za tv B0) ∧ Hid (SR x y) ∧ Hid (LkOk x.N) ∧ Hid (x.st.length ≤ k) ∧ Hid (Below B0 w' wr)) (fun s5 _ => n - (intOf s5).toNat)
  case atStart => exact ⟨0, sn0, _, _, _, _, _, _, _, _, _, _, rfl, Nat.zero_le _, HJ1, sr_zero, lk_zero, Nat.le_refl _, HBL1⟩
  case round =>
    clear HJ1 HBL1
    obtain ⟨k, x, y, vr, va, sv, uv, xr, xa, zr, za, tv, rfl, hk, HJ, HSR, HLK, HXL, HBL⟩ := hrel
    by_cases hlt : k < n
    · obtain ⟨gb, goff, rfl, hc, hl1, hl2, hsrc⟩ := (HO.out.1.keep (show Below w'.heap.size w' wr from by rw [HB0.out]; exact HBL.out)) k hlt
      obtain ⟨hby, _⟩ := HO.out.2 k hlt
      have hdl := HTX.out k hlt
      have hgl0 : ∀ j u, (opC (f k).p (f k).da (f k).cp)[j]? = some u → gb < B0 := fun j u hj => by
        obtain ⟨gb2, goff2, e1, hc2, _⟩ := HO.out.1 k hlt
        injection e1 with e1
        injection e1 with e2 e3
        subst e2
        have := World.block_lt_of_cell? _ _ (hc2 j u hj)
        rw [HB0.out] at this
        exact this
      have hgB := hgl0 0 _ rfl
      have hsb : ∀ (i : Nat) z, (f k).p.d[i]? = some z → ∀ g o, (f k).da = some ⟨g, o, none⟩ → g < B0 := fun i z hi g o hg => by
        obtain ⟨_, _, _, _, _, _, hs2⟩ := HO.out.1 k hlt
        obtain ⟨g2, o2, e1, hx⟩ := hs2 i z hi
        rw [hg] at e1
        injection e1 with e1
        injection e1 with e2 e3
        subst e2
        have := World.block_lt_of_cell? _ _ hx
        rw [HB0.out] at this
        exact this
      clear hgl0
      have hki : (k : Int) < (n : Int) := by omega
      have hkb : decide ((k : Int) < (n : Int)) = true := decide_eq_true hki
      generalize f k = FF at *
      obtain ⟨⟨kd, pa, ⟨ckd, cdv, chp, cpr, cln, cix, ccl, cpm, cup⟩, dd⟩, da, cp⟩ := FF
      simp only [] at hl1 hl2 hsrc hby hdl hsb
      obtain ⟨dn, hdn⟩ : ∃ m, dd.length = m := ⟨_, rfl⟩
      have c0 := hc 0 _ rfl
      have c1 := hc 1 _ rfl
      have c2 := hc 2 _ rfl
      have c3 := hc 3 _ rfl
      have c4 := hc 4 _ rfl
      have c5 := hc 5 _ rfl
      have c6 := hc 6 _ rfl
      have c7 := hc 7 _ rfl
      have c8 := hc 8 _ rfl
      have c9 := hc 9 _ rfl
      have c10 := hc 10 _ rfl
      have c11 := hc 11 _ rfl
      simp only [Nat.add_zero, hdn] at c0 c1 c2 c3 c4 c5 c6 c7 c8 c9 c10 c11
      have HSRC := hide hsrc
      have HSB := hide hsb
      have HBY := hide hby
      have HDL := hide hdl
      have HDC := hide hl2
      have HDN := hide hdn
      clear hc hsrc hsb hby hdl hl1 hl2 hdn
      have k0 := HJ.out.ss.c0
      have EXd : Ex (fun _ => False) wr wr.drew := (Ex.refl _ wr).drew
      have HJd := hide (HJ.out.new EXd)
      have HBd : Hid (Below B0 wr wr.drew) := EXd.below HJ.out.b0 (fun _ _ z => z)
      obtain ⟨hre, hsr2⟩ := step_rel HSR.out HJ.out.ss.ok HLK.out (⟨kd, pa, ⟨ckd, cdv, chp, cpr, cln, cix, ccl, cpm, cup⟩, dd⟩ : Opn)
      have HLK2 := hide (step_lkS x (⟨kd, pa, ⟨ckd, cdv, chp, cpr, cln, cix, ccl, cpm, cup⟩, dd⟩ : Opn) HJ.out.ss.ok HLK.out)
      have HXL2 := hide (Nat.le_trans (step_len x (⟨kd, pa, ⟨ckd, cdv, chp, cpr, cln, cix, ccl, cpm, cup⟩, dd⟩ : Opn)) (Nat.succ_le_succ HXL.out))
      have HYL : Hid (y.st.length ≤ 1000000) := by have := HXL.out; show _ ≤ _; rw [HSR.out.st]; omega
      obtain ⟨RM, hRM⟩ : ∃ r, stepM y (⟨kd, pa, ⟨ckd, cdv, chp, cpr, cln, cix, ccl, cpm, cup⟩, dd⟩ : Opn) = r := ⟨_, rfl⟩
      obtain ⟨⟨x', ⟨ae, at_, ax⟩⟩, hRS⟩ : ∃ r, stepS x (⟨kd, pa, ⟨ckd, cdv, chp, cpr, cln, cix, ccl, cpm, cup⟩, dd⟩ : Opn) = r := ⟨_, rfl⟩
      have HSC : Hid (Calls Try.prog 10 #[.pointer (some ⟨s, 0, none⟩), .agg #[.int .i64 kd, .int .i64 pa, .int .i64 ckd, .int .i64 cdv, .int .i64 chp, .int .i64 cpr, .int .i64 cln, .int .i64 cix, .int .i64 ccl, .bool cpm, .bool cup, .slice da dn cp]] wr.drew (TPost wr.drew s b vr va sv uv (fun k => kd = 2 ∧ sv.ownBlock = some k) x' (ansV ae at_ ax))) := by
        have h1 := stepS_any wr.drew s b x vr va sv uv (⟨kd, pa, ⟨ckd, cdv, chp, cpr, cln, cix, ccl, cpm, cup⟩, dd⟩ : Opn) da cp HJd.out.ss (by have := HXL.out; omega) (by have := HDL.out; show dd.length ≤ _; omega) HDC.out (fun i z hi => by
          obtain ⟨g, o, e1, hx⟩ := HSRC.out i z hi
          exact ⟨g, o, e1, hx⟩)
        rw [hRS] at h1
        simp only [opV, HDN.out] at h1
        exact h1
      rw [hRM, hRS] at hre hsr2
      rw [hRS] at HLK2 HXL2
      simp only [] at hre hsr2 HLK2 HXL2
      have HSR2 := hide hsr2
      have HRM := hide hRM
      have HRA := hide hre
      replace HSRC : Hid (∀ (i : Nat) z, dd[i]? = some z → ∃ g o, da = some ⟨g, o, none⟩ ∧ wr.drew.cell? ⟨g, o + i, none⟩ = some (.int .u8 z)) := HSRC
      clear hre hsr2 hRM hRS EXd
      unfold ansV at HSC
      go_upto_region 8 with fail
      refine wp_region_held_drew (S := fun w' => w'.cell? ⟨gb, goff + k * 12, none⟩ = some (.int .i64 kd) ∧ w'.cell? ⟨gb, goff + k * 12 + 1, none⟩ = some (.int .i64 pa) ∧ w'.cell? ⟨gb, goff + k * 12 + 2, none⟩ = some (.int .i64 ckd) ∧ w'.cell? ⟨gb, goff + k * 12 + 3, none⟩ = some (.int .i64 cdv) ∧ w'.cell? ⟨gb, goff + k * 12 + 4, none⟩ = some (.int .i64 chp) ∧ w'.cell? ⟨gb, goff + k * 12 + 5, none⟩ = some (.int .i64 cpr) ∧ w'.cell? ⟨gb, goff + k * 12 + 6, none⟩ = some (.int .i64 cln) ∧ w'.cell? ⟨gb, goff + k * 12 + 7, none⟩ = some (.int .i64 cix) ∧ w'.cell? ⟨gb, goff + k * 12 + 8, none⟩ = some (.int .i64 ccl) ∧ w'.cell? ⟨gb, goff + k * 12 + 9, none⟩ = some (.bool cpm) ∧ w'.cell? ⟨gb, goff + k * 12 + 10, none⟩ = some (.bool cup) ∧ w'.cell? ⟨gb, goff + k * 12 + 11, none⟩ = some (.slice da dn cp) ∧ w'.cell? ⟨s, 0, none⟩ = some (.pointer (some ⟨b, 0, none⟩))) (by kernel_rfl) (And.intro c0 (And.intro c1 (And.intro c2 (And.intro c3 (And.intro c4 (And.intro c5 (And.intro c6 (And.intro c7 (And.intro c8 (And.intro c9 (And.intro c10 (And.intro c11 k0)))))))))))) (fun hHeld => ?_)
      refine wpAnyH_take (i := 0) (v := ?_) rfl (by kernel_rfl) (by kernel_rfl) (by kernel_rfl) (fun _ _ _ h => h) (Or.inl ⟨by rfl, ?_⟩) (by assumption) ?_
      rotate_left
      · (intro w hSw; (try dsimp only at hSw); go_simp; try (with_reducible rfl))
      try simp only [Act.put, List.getElem_toArray, List.getElem_cons_zero, List.getElem_cons_succ, List.setIfInBounds_toArray, List.set_cons_zero, List.set_cons_succ]
      refine wpAnyH_take (i := 1) (v := ?_) rfl (by kernel_rfl) (by kernel_rfl) (by kernel_rfl) (fun _ _ _ h => h) (Or.inl ⟨by rfl, ?_⟩) (by assumption) ?_
      rotate_left
      · (intro w hSw; (try dsimp only at hSw); go_simp; try (with_reducible rfl))
      try simp only [Act.put, List.getElem_toArray, List.getElem_cons_zero, List.getElem_cons_succ, List.setIfInBounds_toArray, List.set_cons_zero, List.set_cons_succ]
      refine wpAnyH_take (i := 2) (v := ?_) rfl (by kernel_rfl) (by kernel_rfl) (by kernel_rfl) (fun _ _ _ h => h) (Or.inl ⟨by rfl, ?_⟩) (by assumption) ?_
      rotate_left
      · (intro w hSw; (try dsimp only at hSw); go_simp; try (with_reducible rfl))
      try simp only [Act.put, List.getElem_toArray, List.getElem_cons_zero, List.getElem_cons_succ, List.setIfInBounds_toArray, List.set_cons_zero, List.set_cons_succ]
      refine wpAnyH_take (i := 3) (v := ?_) rfl (by kernel_rfl) (by kernel_rfl) (by kernel_rfl) (fun _ _ _ h => h) (Or.inl ⟨by rfl, ?_⟩) (by assumption) ?_
      rotate_left
      · (intro w hSw; (try dsimp only at hSw); go_simp; try (with_reducible rfl))
      try simp only [Act.put, List.getElem_toArray, List.getElem_cons_zero, List.getElem_cons_succ, List.setIfInBounds_toArray, List.set_cons_zero, List.set_cons_succ]
      refine wpAnyH_take (i := 4) (v := ?_) rfl (by kernel_rfl) (by kernel_rfl) (by kernel_rfl) (fun _ _ _ h => h) (Or.inl ⟨by rfl, ?_⟩) (by assumption) ?_
      rotate_left
      · (intro w hSw; (try dsimp only at hSw); go_simp; try (with_reducible rfl))
      try simp only [Act.put, List.getElem_toArray, List.getElem_cons_zero, List.getElem_cons_succ, List.setIfInBounds_toArray, List.set_cons_zero, List.set_cons_succ]
      refine wpAnyH_take (i := 6) (v := ?_) rfl (by kernel_rfl) (by kernel_rfl) (by kernel_rfl) (fun _ _ _ h => h) (Or.inl ⟨by rfl, ?_⟩) (by assumption) ?_
      rotate_left
      · (intro w hSw; (try dsimp only at hSw); go_simp; try (with_reducible rfl))
      try simp only [Act.put, List.getElem_toArray, List.getElem_cons_zero, List.getElem_cons_succ, List.setIfInBounds_toArray, List.set_cons_zero, List.set_cons_succ]
      refine wpAnyH_take (i := 7) (v := ?_) rfl (by kernel_rfl) (by kernel_rfl) (by kernel_rfl) (fun _ _ _ h => h) (Or.inl ⟨by rfl, ?_⟩) (by assumption) ?_
      rotate_left
      · (intro w hSw; (try dsimp only at hSw); go_simp; try (with_reducible rfl))
      try simp only [Act.put, List.getElem_toArray, List.getElem_cons_zero, List.getElem_cons_succ, List.setIfInBounds_toArray, List.set_cons_zero, List.set_cons_succ]
      refine wpAnyH_take (i := 8) (v := ?_) rfl (by kernel_rfl) (by kernel_rfl) (by kernel_rfl) (fun _ _ _ h => h) (Or.inl ⟨by rfl, ?_⟩) (by assumption) ?_
      rotate_left
      · (intro w hSw; (try dsimp only at hSw); go_simp; try (with_reducible rfl))
      try simp only [Act.put, List.getElem_toArray, List.getElem_cons_zero, List.getElem_cons_succ, List.setIfInBounds_toArray, List.set_cons_zero, List.set_cons_succ]
      refine wpAnyH_take (i := 9) (v := ?_) rfl (by kernel_rfl) (by kernel_rfl) (by kernel_rfl) (fun _ _ _ h => h) (Or.inl ⟨by rfl, ?_⟩) (by assumption) ?_
      rotate_left
      · (intro w hSw; (try dsimp only at hSw); go_simp; try (with_reducible rfl))
      try simp only [Act.put, List.getElem_toArray, List.getElem_cons_zero, List.getElem_cons_succ, List.setIfInBounds_toArray, List.set_cons_zero, List.set_cons_succ]
      refine wpAnyH_take (i := 10) (v := ?_) rfl (by kernel_rfl) (by kernel_rfl) (by kernel_rfl) (fun _ _ _ h => h) (Or.inl ⟨by rfl, ?_⟩) (by assumption) ?_
      rotate_left
      · (intro w hSw; (try dsimp only at hSw); go_simp; try (with_reducible rfl))
      try simp only [Act.put, List.getElem_toArray, List.getElem_cons_zero, List.getElem_cons_succ, List.setIfInBounds_toArray, List.set_cons_zero, List.set_cons_succ]
      refine wpAnyH_ready (rs := [5]) (by kernel_rfl) (by simp) ?_
      refine (AllReadyH.cons rfl (fun K hK => ?_) AllReadyH.nil)
      · refine step_call rfl 10 #[.pointer (some ⟨s, 0, none⟩), .agg #[.int .i64 kd, .int .i64 pa, .int .i64 ckd, .int .i64 cdv, .int .i64 chp, .int .i64 cpr, .int .i64 cln, .int .i64 cix, .int .i64 ccl, .bool cpm, .bool cup, .slice da dn cp]] (by simp [go_sem]) HSC.out ?_
        intro e w5 hp5
        obtain ⟨rfl, hbl5, vr', va', sv', uv', hjs5⟩ := HJd.out.real (fun k hk => hk.2) hp5
        refine ⟨_, rfl, ?_⟩
        have HJ5 := hide hjs5
        have HB5 := hide hbl5
        clear hjs5 hbl5 hp5
        refine hK.out _ _ ?_ (fun hHeld => ?_)
        · first | exact ⟨below_cell HB7.out hgB hHeld.1, below_cell HB7.out hgB hHeld.2.1, below_cell HB7.out hgB hHeld.2.2.1, below_cell HB7.out hgB hHeld.2.2.2.1, below_cell HB7.out hgB hHeld.2.2.2.2.1, below_cell HB7.out hgB hHeld.2.2.2.2.2.1, below_cell HB7.out hgB hHeld.2.2.2.2.2.2.1, below_cell HB7.out hgB hHeld.2.2.2.2.2.2.2.1, below_cell HB7.out hgB hHeld.2.2.2.2.2.2.2.2.1, below_cell HB7.out hgB hHeld.2.2.2.2.2.2.2.2.2.1, below_cell HB7.out hgB hHeld.2.2.2.2.2.2.2.2.2.2.1, below_cell HB7.out hgB hHeld.2.2.2.2.2.2.2.2.2.2.2.1, HJ7.out.ss.c0⟩ | exact ⟨below_cell HB6.out hgB hHeld.1, below_cell HB6.out hgB hHeld.2.1, below_cell HB6.out hgB hHeld.2.2.1, below_cell HB6.out hgB hHeld.2.2.2.1, below_cell HB6.out hgB hHeld.2.2.2.2.1, below_cell HB6.out hgB hHeld.2.2.2.2.2.1, below_cell HB6.out hgB hHeld.2.2.2.2.2.2.1, below_cell HB6.out hgB hHeld.2.2.2.2.2.2.2.1, below_cell HB6.out hgB hHeld.2.2.2.2.2.2.2.2.1, below_cell HB6.out hgB hHeld.2.2.2.2.2.2.2.2.2.1, below_cell HB6.out hgB hHeld.2.2.2.2.2.2.2.2.2.2.1, below_cell HB6.out hgB hHeld.2.2.2.2.2.2.2.2.2.2.2.1, HJ6.out.ss.c0⟩ | exact ⟨below_cell HB5.out hgB hHeld.1, below_cell HB5.out hgB hHeld.2.1, below_cell HB5.out hgB hHeld.2.2.1, below_cell HB5.out hgB hHeld.2.2.2.1, below_cell HB5.out hgB hHeld.2.2.2.2.1, below_cell HB5.out hgB hHeld.2.2.2.2.2.1, below_cell HB5.out hgB hHeld.2.2.2.2.2.2.1, below_cell HB5.out hgB hHeld.2.2.2.2.2.2.2.1, below_cell HB5.out hgB hHeld.2.2.2.2.2.2.2.2.1, below_cell HB5.out hgB hHeld.2.2.2.2.2.2.2.2.2.1, below_cell HB5.out hgB hHeld.2.2.2.2.2.2.2.2.2.2.1, below_cell HB5.out hgB hHeld.2.2.2.2.2.2.2.2.2.2.2.1, HJ5.out.ss.c0⟩
        clear hK K
        try simp only [Act.put, List.getElem_toArray, List.getElem_cons_zero, List.getElem_cons_succ, List.setIfInBounds_toArray, List.set_cons_zero, List.set_cons_succ]
        refine wpAnyH_ready (rs := [11]) (by kernel_rfl) (by simp) ?_
        refine (AllReadyH.cons rfl (fun K hK => ?_) AllReadyH.nil)
        · have HSQ : Hid (Calls Try.prog 11 #[.pointer (some ⟨q, 0, none⟩), .agg #[.int .i64 kd, .int .i64 pa, .int .i64 ckd, .int .i64 cdv, .int .i64 chp, .int .i64 cpr, .int .i64 cln, .int .i64 cix, .int .i64 ccl, .bool cpm, .bool cup, .slice da dn cp]] w5 (QPost w5 q xr xa zr za tv (fun k => kd = 2 ∧ tv.ownBlock = some k) RM)) := by
            have h1 := stepQ_any w5 q y xr xa zr za tv (⟨kd, pa, ⟨ckd, cdv, chp, cpr, cln, cix, ccl, cpm, cup⟩, dd⟩ : Opn) da cp HJ5.out.sq HYL.out HDL.out HDC.out (fun i z hi => by
              obtain ⟨g, o, e1, hx⟩ := HSRC.out i z hi
              exact ⟨g, o, e1, below_cell HB5.out (HSB.out i z hi g o e1) hx⟩) HBY.out
            rw [HRM.out] at h1
            simp only [opV, HDN.out] at h1
            exact h1
          refine step_call rfl 11 #[.pointer (some ⟨q, 0, none⟩), .agg #[.int .i64 kd, .int .i64 pa, .int .i64 ckd, .int .i64 cdv, .int .i64 chp, .int .i64 cpr, .int .i64 cln, .int .i64 cix, .int .i64 ccl, .bool cpm, .bool cup, .slice da dn cp]] (by simp [go_sem]) HSQ.out ?_
          intro e w6 hp6
          obtain ⟨rfl, hbl6, xr', xa', zr', za', tv', hjs6⟩ := HJ5.out.model (fun k hk => hk.2) hp6
          refine ⟨_, rfl, ?_⟩
          have HJ6 := hide hjs6
          have HB6 := hide hbl6
          rw [HRA.out]
          unfold ansV
          simp only []
          clear hjs6 hbl6 hp6 HSQ
          refine hK.out _ _ ?_ (fun hHeld => ?_)
          · first | exact ⟨below_cell HB7.out hgB hHeld.1, below_cell HB7.out hgB hHeld.2.1, below_cell HB7.out hgB hHeld.2.2.1, below_cell HB7.out hgB hHeld.2.2.2.1, below_cell HB7.out hgB hHeld.2.2.2.2.1, below_cell HB7.out hgB hHeld.2.2.2.2.2.1, below_cell HB7.out hgB hHeld.2.2.2.2.2.2.1, below_cell HB7.out hgB hHeld.2.2.2.2.2.2.2.1, below_cell HB7.out hgB hHeld.2.2.2.2.2.2.2.2.1, below_cell HB7.out hgB hHeld.2.2.2.2.2.2.2.2.2.1, below_cell HB7.out hgB hHeld.2.2.2.2.2.2.2.2.2.2.1, below_cell HB7.out hgB hHeld.2.2.2.2.2.2.2.2.2.2.2.1, HJ7.out.ss.c0⟩ | exact ⟨below_cell HB6.out hgB hHeld.1, below_cell HB6.out hgB hHeld.2.1, below_cell HB6.out hgB hHeld.2.2.1, below_cell HB6.out hgB hHeld.2.2.2.1, below_cell HB6.out hgB hHeld.2.2.2.2.1, below_cell HB6.out hgB hHeld.2.2.2.2.2.1, below_cell HB6.out hgB hHeld.2.2.2.2.2.2.1, below_cell HB6.out hgB hHeld.2.2.2.2.2.2.2.1, below_cell HB6.out hgB hHeld.2.2.2.2.2.2.2.2.1, below_cell HB6.out hgB hHeld.2.2.2.2.2.2.2.2.2.1, below_cell HB6.out hgB hHeld.2.2.2.2.2.2.2.2.2.2.1, below_cell HB6.out hgB hHeld.2.2.2.2.2.2.2.2.2.2.2.1, HJ6.out.ss.c0⟩ | exact ⟨below_cell HB5.out hgB hHeld.1, below_cell HB5.out hgB hHeld.2.1, below_cell HB5.out hgB hHeld.2.2.1, below_cell HB5.out hgB hHeld.2.2.2.1, below_cell HB5.out hgB hHeld.2.2.2.2.1, below_cell HB5.out hgB hHeld.2.2.2.2.2.1, below_cell HB5.out hgB hHeld.2.2.2.2.2.2.1, below_cell HB5.out hgB hHeld.2.2.2.2.2.2.2.1, below_cell HB5.out hgB hHeld.2.2.2.2.2.2.2.2.1, below_cell HB5.out hgB hHeld.2.2.2.2.2.2.2.2.2.1, below_cell HB5.out hgB hHeld.2.2.2.2.2.2.2.2.2.2.1, below_cell HB5.out hgB hHeld.2.2.2.2.2.2.2.2.2.2.2.1, HJ5.out.ss.c0⟩
          clear hK K
          try simp only [Act.put, List.getElem_toArray, List.getElem_cons_zero, List.getElem_cons_succ, List.setIfInBounds_toArray, List.set_cons_zero, List.set_cons_succ]
          refine wpAnyH_take (i := 12) (v := ?_) rfl (by kernel_rfl) (by kernel_rfl) (by kernel_rfl) (fun _ _ _ h => h) (Or.inl ⟨by rfl, ?_⟩) (by assumption) ?_
          rotate_left
          · (intro w hSw; (try dsimp only at hSw); go_simp; try (with_reducible rfl))
          try simp only [Act.put, List.getElem_toArray, List.getElem_cons_zero, List.getElem_cons_succ, List.setIfInBounds_toArray, List.set_cons_zero, List.set_cons_succ]
          refine wpAnyH_take (i := 13) (v := ?_) rfl (by kernel_rfl) (by kernel_rfl) (by kernel_rfl) (fun _ _ _ h => h) (Or.inl ⟨by rfl, ?_⟩) (by assumption) ?_
          rotate_left
          · (intro w hSw; (try dsimp only at hSw); go_simp; try (with_reducible rfl))
          try simp only [Act.put, List.getElem_toArray, List.getElem_cons_zero, List.getElem_cons_succ, List.setIfInBounds_toArray, List.set_cons_zero, List.set_cons_succ]
          refine wpAnyH_take (i := 14) (v := ?_) rfl (by kernel_rfl) (by kernel_rfl) (by kernel_rfl) (fun _ _ _ h => h) (Or.inl ⟨by rfl, ?_⟩) (by assumption) ?_
          rotate_left
          · (intro w hSw; (try dsimp only at hSw); go_simp; try (with_reducible rfl))
          try simp only [Act.put, List.getElem_toArray, List.getElem_cons_zero, List.getElem_cons_succ, List.setIfInBounds_toArray, List.set_cons_zero, List.set_cons_succ]
          refine wpAnyH_take (i := 15) (v := ?_) rfl (by kernel_rfl) (by kernel_rfl) (by kernel_rfl) (fun _ _ _ h => h) (Or.inl ⟨by rfl, ?_⟩) (by assumption) ?_
          rotate_left
          · (intro w hSw; (try dsimp only at hSw); go_simp; try (with_reducible rfl))
          try simp only [Act.put, List.getElem_toArray, List.getElem_cons_zero, List.getElem_cons_succ, List.setIfInBounds_toArray, List.set_cons_zero, List.set_cons_succ]
          refine wpAnyH_take (i := 16) (v := ?_) rfl (by kernel_rfl) (by kernel_rfl) (by kernel_rfl) (fun _ _ _ h => h) (Or.inl ⟨by rfl, ?_⟩) (by assumption) ?_
          rotate_left
          · (intro w hSw; (try dsimp only at hSw); go_simp; try (with_reducible rfl))
          try simp only [Act.put, List.getElem_toArray, List.getElem_cons_zero, List.getElem_cons_succ, List.setIfInBounds_toArray, List.set_cons_zero, List.set_cons_succ]
          refine wpAnyH_take (i := 17) (v := ?_) rfl (by kernel_rfl) (by kernel_rfl) (by kernel_rfl) (fun _ _ _ h => h) (Or.inl ⟨by rfl, ?_⟩) (by assumption) ?_
          rotate_left
          · (intro w hSw; (try dsimp only at hSw); go_simp; try (with_reducible rfl))
          try simp only [Act.put, List.getElem_toArray, List.getElem_cons_zero, List.getElem_cons_succ, List.setIfInBounds_toArray, List.set_cons_zero, List.set_cons_succ]
          refine wpAnyH_take (i := 18) (v := ?_) rfl (by kernel_rfl) (by kernel_rfl) (by kernel_rfl) (fun _ _ _ h => h) (Or.inl ⟨by rfl, ?_⟩) (by assumption) ?_
          rotate_left
          · (intro w hSw; (try dsimp only at hSw); go_simp; try (with_reducible rfl))
          try simp only [Act.put, List.getElem_toArray, List.getElem_cons_zero, List.getElem_cons_succ, List.setIfInBounds_toArray, List.set_cons_zero, List.set_cons_succ]
          refine wpAnyH_take (i := 19) (v := ?_) rfl (by kernel_rfl) (by kernel_rfl) (by kernel_rfl) (fun _ _ _ h => h) (Or.inl ⟨by rfl, ?_⟩) (by assumption) ?_
          rotate_left
          · (intro w hSw; (try dsimp only at hSw); go_simp; try (with_reducible rfl))
          try simp only [Act.put, List.getElem_toArray, List.getElem_cons_zero, List.getElem_cons_succ, List.setIfInBounds_toArray, List.set_cons_zero, List.set_cons_succ]
          refine wpAnyH_take (i := 20) (v := ?_) rfl (by kernel_rfl) (by kernel_rfl) (by kernel_rfl) (fun _ _ _ h => h) (Or.inl ⟨by rfl, ?_⟩) (by assumption) ?_
          rotate_left
          · (intro w hSw; (try dsimp only at hSw); go_simp; try (with_reducible rfl))
          try simp only [Act.put, List.getElem_toArray, List.getElem_cons_zero, List.getElem_cons_succ, List.setIfInBounds_toArray, List.set_cons_zero, List.set_cons_succ]
          refine wpAnyH_ready (rs := [21]) (by kernel_rfl) (by simp) ?_
          refine (AllReadyH.cons rfl (fun K hK => ?_) AllReadyH.nil)
          · refine step_call_g (by rfl) 12 #[.pointer (some ⟨b, 0, none⟩), .pointer (some ⟨q, 0, none⟩)] (by simp [go_sem]) (alike_any w6 b q 0 _ _ _ _ _ _ HJ6.out.ss.na HJ6.out.sq.now HJ6.out.ss.ok HSR2.out.net) ?_
            rintro e w7 ⟨rfl, hex7⟩
            refine ⟨_, rfl, ?_⟩
            have HJ7 := hide (HJ6.out.new hex7)
            have HB7 : Hid (Below B0 w6 w7) := hex7.below HJ6.out.b0 (fun _ _ z => z)
            clear hex7
            refine hK.out _ _ ?_ (fun hHeld => ?_)
            · first | exact ⟨below_cell HB7.out hgB hHeld.1, below_cell HB7.out hgB hHeld.2.1, below_cell HB7.out hgB hHeld.2.2.1, below_cell HB7.out hgB hHeld.2.2.2.1, below_cell HB7.out hgB hHeld.2.2.2.2.1, below_cell HB7.out hgB hHeld.2.2.2.2.2.1, below_cell HB7.out hgB hHeld.2.2.2.2.2.2.1, below_cell HB7.out hgB hHeld.2.2.2.2.2.2.2.1, below_cell HB7.out hgB hHeld.2.2.2.2.2.2.2.2.1, below_cell HB7.out hgB hHeld.2.2.2.2.2.2.2.2.2.1, below_cell HB7.out hgB hHeld.2.2.2.2.2.2.2.2.2.2.1, below_cell HB7.out hgB hHeld.2.2.2.2.2.2.2.2.2.2.2.1, HJ7.out.ss.c0⟩ | exact ⟨below_cell HB6.out hgB hHeld.1, below_cell HB6.out hgB hHeld.2.1, below_cell HB6.out hgB hHeld.2.2.1, below_cell HB6.out hgB hHeld.2.2.2.1, below_cell HB6.out hgB hHeld.2.2.2.2.1, below_cell HB6.out hgB hHeld.2.2.2.2.2.1, below_cell HB6.out hgB hHeld.2.2.2.2.2.2.1, below_cell HB6.out hgB hHeld.2.2.2.2.2.2.2.1, below_cell HB6.out hgB hHeld.2.2.2.2.2.2.2.2.1, below_cell HB6.out hgB hHeld.2.2.2.2.2.2.2.2.2.1, below_cell HB6.out hgB hHeld.2.2.2.2.2.2.2.2.2.2.1, below_cell HB6.out hgB hHeld.2.2.2.2.2.2.2.2.2.2.2.1, HJ6.out.ss.c0⟩ | exact ⟨below_cell HB5.out hgB hHeld.1, below_cell HB5.out hgB hHeld.2.1, below_cell HB5.out hgB hHeld.2.2.1, below_cell HB5.out hgB hHeld.2.2.2.1, below_cell HB5.out hgB hHeld.2.2.2.2.1, below_cell HB5.out hgB hHeld.2.2.2.2.2.1, below_cell HB5.out hgB hHeld.2.2.2.2.2.2.1, below_cell HB5.out hgB hHeld.2.2.2.2.2.2.2.1, below_cell HB5.out hgB hHeld.2.2.2.2.2.2.2.2.1, below_cell HB5.out hgB hHeld.2.2.2.2.2.2.2.2.2.1, below_cell HB5.out hgB hHeld.2.2.2.2.2.2.2.2.2.2.1, below_cell HB5.out hgB hHeld.2.2.2.2.2.2.2.2.2.2.2.1, HJ5.out.ss.c0⟩
            clear hK K
            try simp only [Act.put, List.getElem_toArray, List.getElem_cons_zero, List.getElem_cons_succ, List.setIfInBounds_toArray, List.set_cons_zero, List.set_cons_succ]
            refine wpAnyH_take (i := 22) (v := ?_) rfl (by kernel_rfl) (by kernel_rfl) (by kernel_rfl) (fun _ _ _ h => h) (Or.inl ⟨by rfl, ?_⟩) (by assumption) ?_
            rotate_left
            · (intro w hSw; (try dsimp only at hSw); go_simp; try (with_reducible rfl))
            try simp only [Act.put, List.getElem_toArray, List.getElem_cons_zero, List.getElem_cons_succ, List.setIfInBounds_toArray, List.set_cons_zero, List.set_cons_succ]
            refine wpAnyH_take (i := 23) (v := ?_) rfl (by kernel_rfl) (by kernel_rfl) (by kernel_rfl) (fun _ _ _ h => h) (Or.inl ⟨by rfl, ?_⟩) (by assumption) ?_
            rotate_left
            · (intro w hSw; (try dsimp only at hSw); go_simp; try (with_reducible rfl))
            try simp only [Act.put, List.getElem_toArray, List.getElem_cons_zero, List.getElem_cons_succ, List.setIfInBounds_toArray, List.set_cons_zero, List.set_cons_succ]
            refine wpAnyH_done (by kernel_rfl) ?_ _
            clear hHeld
            have HBF : Hid (Below B0 w' w7) := HBL.out.trans (HBd.out.trans (HB5.out.trans (HB6.out.trans HB7.out)))
            go_wp2
            go_roundw
            case rel => exact ⟨k + 1, x', RM.1, vr', va', sv', uv', xr', xa', zr', za', tv', by go_num, by omega, HJ7, HSR2, HLK2, HXL2, HBF⟩
            case measure => (simp [intOf]; try omega)
    · have hkb : decide ((k : Int) < (n : Int)) = false := decide_eq_false (by omega)
      have HBF : Hid (Below w'.heap.size w' wr) := by rw [HB0.out]; exact HBL.out
      go_wp2
      go_ret
      exact ⟨rfl, HBF.out⟩
end Go.Proofs.Qxb6500778a
