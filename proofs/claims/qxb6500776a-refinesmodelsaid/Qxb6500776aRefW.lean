import Derived.Test.Qxb6500776aMsc
namespace Go.Proofs.Qxb6500776a
open Go.RowKit

set_option maxRecDepth 100000 in
set_option maxHeartbeats 8000000 in
theorem refinesModel_walk (w : World) (a : Option Addr) (n cap : Nat) (f : Nat → Nat → Int) (hn : n ≤ 9223372036854775807) (ho : OpsAt w a n f) :
    Calls Try.prog 3 #[.slice a n cap] w fun e w' => e = .returned (.bool true) ∧ Below w.heap.size w w' := by
  have HO := hide ho
  clear ho
  by_cases hsm : n ≤ 65536
  · go_enter Try.func3, Try.ntmps3
    go_wp2_with fail
    refine (small_any _ a n cap hn).mono ?_
    rintro e w' ⟨rfl, ew⟩
    rw [ew]
    have hd : decide (n ≤ 65536) = true := by simpa using hsm
    rw [hd]
    clear hd ew w'
    go_wp2_with fail
    refine (newW_any _).mono ?_
    rintro e w' ⟨rfl, ew⟩
    rw [ew]
    clear ew w'
    go_wp2_with fail
    refine (newS_any _).mono ?_
    rintro e w' ⟨rfl, ew⟩
    rw [ew]
    clear ew w'
    have HL := hide (LW.first w)
    have hsz : (w.alloc (.cells #[.slice none 0 0, .slice none 0 0] 44)).heap.size = w.heap.size + 1 := by simp
    (try rw [hsz])
    clear hsz
    generalize (w.alloc (.cells #[.slice none 0 0, .slice none 0 0] 44)).alloc (.cells Try.zeroCells75 75) = w1 at *
    obtain ⟨s, hs⟩ : ∃ s, w.heap.size + 1 = s := ⟨_, rfl⟩
    rw [hs] at HL ⊢
    clear hs
    obtain ⟨p, hp⟩ : ∃ p, w.heap.size = p := ⟨_, rfl⟩
    rw [hp] at HL ⊢
    have HP := hide hp
    clear hp
    go_wp2
    go_loopw [5] (fun i wr => ∃ (k : Nat) (v1 v2 : Value) (L : List Shp) (M : List Smk), k ≤ n ∧ i = .int .i64 k ∧ LW w wr p s v1 v2 L M) (fun i _ => n - (intOf i).toNat)
    case atStart => exact ⟨0, _, _, _, _, Nat.zero_le _, rfl, HL.out⟩
    case round =>
      clear HL
      obtain ⟨k, v1, v2, L, M, hk, rfl, hl⟩ := hrel
      have HL := hide hl
      clear hl
      by_cases hlt : k < n
      · have hlti : (k : Int) < (n : Int) := by omega
        obtain ⟨b, off, rfl, hf⟩ := HO.out k hlt
        have hc : ∀ wx, Below w.heap.size w wx → ∀ j, j < 6 → wx.cell? ⟨b, off + k * 6 + j, none⟩ = some (.int .i64 (f k j)) := fun wx hbel j hj => (hbel.cell (World.block_lt_of_cell? _ _ (hf j hj).1)).trans (hf j hj).1
        have c0 := hc _ HL.out.bel 0 (by omega)
        rw [Nat.add_zero] at c0
        have c1 := hc _ HL.out.bel 1 (by omega)
        have c2 := hc _ HL.out.bel 2 (by omega)
        have c3 := hc _ HL.out.bel 3 (by omega)
        have c4 := hc _ HL.out.bel 4 (by omega)
        have c5 := hc _ HL.out.bel 5 (by omega)
        have b1 := (hf 1 (by omega)).2
        have b2 := (hf 2 (by omega)).2
        have HCC := hide hc
        clear hf hc
        obtain ⟨kd, hkd⟩ : ∃ kd, f k 0 = kd := ⟨_, rfl⟩
        rw [hkd] at c0
        have HKD := hide hkd
        clear hkd
        generalize f k 1 = A at *
        generalize f k 2 = Bb at *
        generalize f k 3 = Cc at *
        generalize f k 4 = Dd at *
        generalize f k 5 = Oo at *
        go_wp2_with fail
        refine (step_any _ p v1 v2 L M HL.out.wd HL.out.wo kd A Bb Cc Dd Oo b1 b2).mono ?_
        rintro e w2 hst
        obtain ⟨r0, va, vb, L2, M2, rfl, hl2⟩ := HL.out.step hst
        have HL2 := hide hl2
        clear hst hl2 HL c0 c1 c2 c3 c4 c5 b1 b2
        have c0 := HCC.out _ HL2.out.bel 0 (by omega)
        rw [Nat.add_zero, HKD.out] at c0
        by_cases h6 : kd = 6
        · rw [h6] at c0
          clear HCC h6 HKD
          go_wp2_with fail
          refine (HL2.out.scan).mono ?_
          rintro e w3 ⟨ga, gn, gc, B, rfl, hdr, hgn, hbr, hbd, hex, hl3⟩
          have HL3 := hide hl3
          have HDR := hide hdr
          have HGN := hide hgn
          have HBR := hide hbr
          have HBD := hide hbd
          have hg768 : gn ≤ 768 := by rw [hgn]; exact repN_len B 768
          clear hl3 hdr hgn hbr hbd hex HL2
          obtain ⟨a1, cp1, e1⟩ := own_form HL3.out.wd.r1
          obtain ⟨a2, cp2, e2⟩ := own_form HL3.out.wd.r2
          obtain ⟨nL, hnL⟩ : ∃ nL, L2.length = nL := ⟨_, rfl⟩
          obtain ⟨nM, hnM⟩ : ∃ nM, M2.length = nM := ⟨_, rfl⟩
          have hnL48 : nL ≤ 48 := by rw [← hnL]; exact HL3.out.wo.len
          have hnM32 : nM ≤ 32 := by rw [← hnM]; exact HL3.out.wo.ml
          rw [hnL] at e1
          rw [hnM] at e2
          have HNL := hide hnL
          have HNM := hide hnM
          have E1 := hide e1
          have E2 := hide e2
          clear e1 e2 hnL hnM
          clear E1 E2 HNL HNM
          go_wp2_with fail
          refine (mscan_any _ p va vb L2 M2 HL3.out.wd HL3.out.wo B HBD.out).mono ?_
          rintro e w4 ⟨v4, rfl, hr4, b4⟩
          obtain ⟨a4, c4, rfl⟩ := own_form hr4
          rw [← HGN.out] at hr4
          have H4 := hide hr4
          have HD4 := hide (HDR.out.below b4)
          have HL4 := hide (HL3.out.below b4)
          rw [← HGN.out]
          clear hr4 b4 HDR HL3
          go_wp2_with fail
          refine (same_any _ _ _ ga a4 gn gc c4 (repN B 768) HD4.out H4.out HGN.out hg768).mono ?_
          rintro e w5 ⟨rfl, b5⟩
          have HL5 := hide (HL4.out.below b5)
          clear b5 c0
          go_wp2
          go_roundw
          case rel => exact ⟨k + 1, _, _, _, _, by omega, by simp, HL5.out⟩
          case measure => simp [intOf]; omega
        · have h6b : (kd == 6) = false := by simp [h6]
          go_wp2
          go_roundw
          case rel => exact ⟨k + 1, _, _, _, _, by omega, by simp, HL2.out⟩
          case measure => simp [intOf]; omega
      · have hlti : ¬ (k : Int) < (n : Int) := by omega
        obtain rfl : k = n := by omega
        go_wp2
        go_ret
        exact ⟨rfl, HL.out.bel⟩
  · go_enter Try.func3, Try.ntmps3
    go_wp2_with fail
    refine (small_any _ a n cap hn).mono ?_
    rintro e w' ⟨rfl, ew⟩
    rw [ew]
    have hd : decide (n ≤ 65536) = false := by simpa using hsm
    rw [hd]
    clear hd ew w'
    go_wp2
    go_ret
    exact ⟨rfl, Below.refl _ _⟩
end Go.Proofs.Qxb6500776a
