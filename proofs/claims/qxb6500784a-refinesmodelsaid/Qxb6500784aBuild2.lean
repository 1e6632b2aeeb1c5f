import Derived.Test.Qxb6500784aBuildP
namespace Go.Proofs.Qxb6500784a
open Go.RowKit

attribute [-simp] Try.isAgg95 Try.sizeOf95 Try.typeInfo95
set_option maxRecDepth 100000 in
set_option maxHeartbeats 4000000 in
theorem build_any (w : World) (a : Option Addr) (n cap : Nat) (L : Nat → Leg) (hn : n ≤ 9223372036854775807) (hL : LegsAt w a n L) :
    Calls Try.prog 44 #[.agg #[.slice a n cap]] w fun e w' => ∃ gn m, e = .returned (.tuple #[.agg (gArr gn m), .int .i64 (bCode n L)]) ∧ (∀ i, m i < 256) ∧ (bCode n L = 0 → gn = n ∧ NeedBits n L m) ∧ Below w.heap.size w w' := by
  obtain ⟨W, hW⟩ : ∃ W, W = (((w.alloc (.cells #[.slice a n cap] 27)).alloc (.cells #[.int .i64 0, .int .u8 0, .int .u8 0, .int .u8 0, .int .u8 0, .int .u8 0, .int .u8 0, .int .u8 0, .int .u8 0] 108)).alloc (.cells #[.int .i64 0, .int .u8 0, .int .u8 0, .int .u8 0, .int .u8 0, .int .u8 0, .int .u8 0, .int .u8 0, .int .u8 0] 108)) := ⟨_, rfl⟩
  have HB : Hid (BAt w W w.heap.size a n cap 0 (fun _ => 0)) := by rw [hW]; exact bat0 w a n cap
  have HL := hide hL
  clear hL
  go_enter Try.func44, Try.ntmps44
  go_upto_region 2 with fail
  rw [← hW]
  clear hW
  generalize w.heap.size = P at HB ⊢
  have ar := HB.out.arg
  have r0 := HB.out.res.c0
  have g0 := HB.out.g.c0
  have r1 : W.cell? ⟨P + 1, 1, none⟩ = some (.int .u8 ((0 : Nat) : Int)) := HB.out.res.cs 0 (by omega)
  have g1 : W.cell? ⟨P + 1 + 1, 1, none⟩ = some (.int .u8 ((0 : Nat) : Int)) := HB.out.g.cs 0 (by omega)
  have r2 : W.cell? ⟨P + 1, 2, none⟩ = some (.int .u8 ((0 : Nat) : Int)) := HB.out.res.cs 1 (by omega)
  have g2 : W.cell? ⟨P + 1 + 1, 2, none⟩ = some (.int .u8 ((0 : Nat) : Int)) := HB.out.g.cs 1 (by omega)
  have r3 : W.cell? ⟨P + 1, 3, none⟩ = some (.int .u8 ((0 : Nat) : Int)) := HB.out.res.cs 2 (by omega)
  have g3 : W.cell? ⟨P + 1 + 1, 3, none⟩ = some (.int .u8 ((0 : Nat) : Int)) := HB.out.g.cs 2 (by omega)
  have r4 : W.cell? ⟨P + 1, 4, none⟩ = some (.int .u8 ((0 : Nat) : Int)) := HB.out.res.cs 3 (by omega)
  have g4 : W.cell? ⟨P + 1 + 1, 4, none⟩ = some (.int .u8 ((0 : Nat) : Int)) := HB.out.g.cs 3 (by omega)
  have r5 : W.cell? ⟨P + 1, 5, none⟩ = some (.int .u8 ((0 : Nat) : Int)) := HB.out.res.cs 4 (by omega)
  have g5 : W.cell? ⟨P + 1 + 1, 5, none⟩ = some (.int .u8 ((0 : Nat) : Int)) := HB.out.g.cs 4 (by omega)
  have r6 : W.cell? ⟨P + 1, 6, none⟩ = some (.int .u8 ((0 : Nat) : Int)) := HB.out.res.cs 5 (by omega)
  have g6 : W.cell? ⟨P + 1 + 1, 6, none⟩ = some (.int .u8 ((0 : Nat) : Int)) := HB.out.g.cs 5 (by omega)
  have r7 : W.cell? ⟨P + 1, 7, none⟩ = some (.int .u8 ((0 : Nat) : Int)) := HB.out.res.cs 6 (by omega)
  have g7 : W.cell? ⟨P + 1 + 1, 7, none⟩ = some (.int .u8 ((0 : Nat) : Int)) := HB.out.g.cs 6 (by omega)
  have r8 : W.cell? ⟨P + 1, 8, none⟩ = some (.int .u8 ((0 : Nat) : Int)) := HB.out.res.cs 7 (by omega)
  have g8 : W.cell? ⟨P + 1 + 1, 8, none⟩ = some (.int .u8 ((0 : Nat) : Int)) := HB.out.g.cs 7 (by omega)
  have rf := HB.out.res.fr
  have gf := HB.out.g.fr
  have HLE : Hid (w.heap.size ≤ P + 1) := Nat.le_succ_of_le HB.out.le
  by_cases h0 : n = 0
  · have HC : Hid (bCode n L = 60) := by show bCode n L = 60; simp [bCode, h0]
    go_wp2
    refine bodyPost_ret (v := .tuple #[.agg (gArr (0) (fun _ => 0)), .int .i64 (60)]) (by simp [results, Try.results44, go_sem, gArr, r0, r1, r2, r3, r4, r5, r6, r7, r8]) rfl ⟨0, fun _ => 0, by rw [HC.out], fun _ => (by decide : 0 < 256), fun h => ?_, ?_⟩
    · rw [HC.out] at h; omega
    · exact (((((((((HB.out.bel).setCell HLE.out _).setCell HLE.out _).setCell HLE.out _).setCell HLE.out _).setCell HLE.out _).setCell HLE.out _).setCell HLE.out _).setCell HLE.out _).setCell HLE.out _

  by_cases h8 : n > 8
  · have HC : Hid (bCode n L = 61) := by show bCode n L = 61; simp [bCode, h0, h8]
    go_wp2
    refine bodyPost_ret (v := .tuple #[.agg (gArr (0) (fun _ => 0)), .int .i64 (61)]) (by simp [results, Try.results44, go_sem, gArr, r0, r1, r2, r3, r4, r5, r6, r7, r8]) rfl ⟨0, fun _ => 0, by rw [HC.out], fun _ => (by decide : 0 < 256), fun h => ?_, ?_⟩
    · rw [HC.out] at h; omega
    · exact (((((((((HB.out.bel).setCell HLE.out _).setCell HLE.out _).setCell HLE.out _).setCell HLE.out _).setCell HLE.out _).setCell HLE.out _).setCell HLE.out _).setCell HLE.out _).setCell HLE.out _

  go_upto_region 7 with fail
  obtain ⟨W1, hW1⟩ : ∃ W1, W1 = W.setCell ⟨P + 1 + 1, 0, none⟩ (.int .i64 n) := ⟨_, rfl⟩
  have HB1 : Hid (BAt w W1 P a n cap n (fun _ => 0)) := by rw [hW1]; exact HB.out.setN
  rw [← hW1]
  have e0 : ((n : Int) == 0) = false := by simp [h0]
  have e8 : decide (8 < (n : Int)) = false := decide_eq_false (by omega)
  rw [e0, e8]
  clear e0 e8
  clear hW1 ar r0 r1 r2 r3 r4 r5 r6 r7 r8 g0 g1 g2 g3 g4 g5 g6 g7 g8 rf gf HB
  go_wp2
  go_loopw [5] (fun s wx => ∃ k : Nat, k ≤ n ∧ s = .int .i64 k ∧ BAt w wx P a n cap n (fun _ => 0) ∧ ∀ i, i < k → legCode (L i) = 0) (fun i _ => n - (intOf i).toNat)
  case atStart => exact ⟨0, Nat.zero_le _, rfl, HB1.out, fun i hi => by omega⟩
  case round =>
    obtain ⟨k, hk, rfl, hbat, hok⟩ := hrel
    have HB := hide hbat
    have HOK := hide hok
    clear hbat hok
    have ar := HB.out.arg
    have r0 := HB.out.res.c0
    have g0 := HB.out.g.c0
    have r1 : wr.cell? ⟨P + 1, 1, none⟩ = some (.int .u8 ((0 : Nat) : Int)) := HB.out.res.cs 0 (by omega)
    have g1 : wr.cell? ⟨P + 1 + 1, 1, none⟩ = some (.int .u8 ((0 : Nat) : Int)) := HB.out.g.cs 0 (by omega)
    have r2 : wr.cell? ⟨P + 1, 2, none⟩ = some (.int .u8 ((0 : Nat) : Int)) := HB.out.res.cs 1 (by omega)
    have g2 : wr.cell? ⟨P + 1 + 1, 2, none⟩ = some (.int .u8 ((0 : Nat) : Int)) := HB.out.g.cs 1 (by omega)
    have r3 : wr.cell? ⟨P + 1, 3, none⟩ = some (.int .u8 ((0 : Nat) : Int)) := HB.out.res.cs 2 (by omega)
    have g3 : wr.cell? ⟨P + 1 + 1, 3, none⟩ = some (.int .u8 ((0 : Nat) : Int)) := HB.out.g.cs 2 (by omega)
    have r4 : wr.cell? ⟨P + 1, 4, none⟩ = some (.int .u8 ((0 : Nat) : Int)) := HB.out.res.cs 3 (by omega)
    have g4 : wr.cell? ⟨P + 1 + 1, 4, none⟩ = some (.int .u8 ((0 : Nat) : Int)) := HB.out.g.cs 3 (by omega)
    have r5 : wr.cell? ⟨P + 1, 5, none⟩ = some (.int .u8 ((0 : Nat) : Int)) := HB.out.res.cs 4 (by omega)
    have g5 : wr.cell? ⟨P + 1 + 1, 5, none⟩ = some (.int .u8 ((0 : Nat) : Int)) := HB.out.g.cs 4 (by omega)
    have r6 : wr.cell? ⟨P + 1, 6, none⟩ = some (.int .u8 ((0 : Nat) : Int)) := HB.out.res.cs 5 (by omega)
    have g6 : wr.cell? ⟨P + 1 + 1, 6, none⟩ = some (.int .u8 ((0 : Nat) : Int)) := HB.out.g.cs 5 (by omega)
    have r7 : wr.cell? ⟨P + 1, 7, none⟩ = some (.int .u8 ((0 : Nat) : Int)) := HB.out.res.cs 6 (by omega)
    have g7 : wr.cell? ⟨P + 1 + 1, 7, none⟩ = some (.int .u8 ((0 : Nat) : Int)) := HB.out.g.cs 6 (by omega)
    have r8 : wr.cell? ⟨P + 1, 8, none⟩ = some (.int .u8 ((0 : Nat) : Int)) := HB.out.res.cs 7 (by omega)
    have g8 : wr.cell? ⟨P + 1 + 1, 8, none⟩ = some (.int .u8 ((0 : Nat) : Int)) := HB.out.g.cs 7 (by omega)
    have rf := HB.out.res.fr
    have gf := HB.out.g.fr

    by_cases hlt : k < n
    · obtain ⟨b, off, rfl, hc, hleg⟩ := (HL.out.below HB.out.bel) k hlt
      have HCl := hide hc
      have HLeg := hide hleg
      clear hc hleg
      go_wp2_with fail
      simp only [Try.sizeOf95, Result.andThen]
      rw [Oper.upon_value]
      go_wp2_with fail
      have hlc := legCells wr b (off + k * 86) (L k) HCl.out
      simp only [Try.isAgg95, Try.sizeOf95, Result.andThen, ↓reduceIte, hlc]
      rw [Oper.upon_value]
      clear hlc
      go_wp2_with fail
      refine (checkLeg_any wr (L k) HLeg.out).mono ?_
      rintro e w2 ⟨rfl, hb2⟩
      replace HB := hide (HB.out.below hb2)
      clear hb2 ar r0 r1 r2 r3 r4 r5 r6 r7 r8 g0 g1 g2 g3 g4 g5 g6 g7 g8 rf gf HCl HLeg
      by_cases hz : legCode (L k) = 0
      · rw [hz]
        go_wp2
        go_roundw
        case rel => exact ⟨k + 1, by omega, by go_num, HB.out, fun i hi => by rcases Nat.lt_or_ge i k with h | h; exact HOK.out i h; rw [show i = k by omega]; exact hz⟩
        case measure => simp [intOf]; omega
      · have HC : Hid (bCode n L = legCode (L k)) := by
          have e := firstCode_at (L := L) hz (k := n) (i := 0) (Nat.zero_le _) (by omega) (fun j _ hj => HOK.out j hj)
          show bCode n L = legCode (L k)
          simp [bCode, h0, h8, e, hz]
        have HZ := hide hz
        have ar := HB.out.arg
        have r0 := HB.out.res.c0
        have g0 := HB.out.g.c0
        have r1 : w2.cell? ⟨P + 1, 1, none⟩ = some (.int .u8 ((0 : Nat) : Int)) := HB.out.res.cs 0 (by omega)
        have g1 : w2.cell? ⟨P + 1 + 1, 1, none⟩ = some (.int .u8 ((0 : Nat) : Int)) := HB.out.g.cs 0 (by omega)
        have r2 : w2.cell? ⟨P + 1, 2, none⟩ = some (.int .u8 ((0 : Nat) : Int)) := HB.out.res.cs 1 (by omega)
        have g2 : w2.cell? ⟨P + 1 + 1, 2, none⟩ = some (.int .u8 ((0 : Nat) : Int)) := HB.out.g.cs 1 (by omega)
        have r3 : w2.cell? ⟨P + 1, 3, none⟩ = some (.int .u8 ((0 : Nat) : Int)) := HB.out.res.cs 2 (by omega)
        have g3 : w2.cell? ⟨P + 1 + 1, 3, none⟩ = some (.int .u8 ((0 : Nat) : Int)) := HB.out.g.cs 2 (by omega)
        have r4 : w2.cell? ⟨P + 1, 4, none⟩ = some (.int .u8 ((0 : Nat) : Int)) := HB.out.res.cs 3 (by omega)
        have g4 : w2.cell? ⟨P + 1 + 1, 4, none⟩ = some (.int .u8 ((0 : Nat) : Int)) := HB.out.g.cs 3 (by omega)
        have r5 : w2.cell? ⟨P + 1, 5, none⟩ = some (.int .u8 ((0 : Nat) : Int)) := HB.out.res.cs 4 (by omega)
        have g5 : w2.cell? ⟨P + 1 + 1, 5, none⟩ = some (.int .u8 ((0 : Nat) : Int)) := HB.out.g.cs 4 (by omega)
        have r6 : w2.cell? ⟨P + 1, 6, none⟩ = some (.int .u8 ((0 : Nat) : Int)) := HB.out.res.cs 5 (by omega)
        have g6 : w2.cell? ⟨P + 1 + 1, 6, none⟩ = some (.int .u8 ((0 : Nat) : Int)) := HB.out.g.cs 5 (by omega)
        have r7 : w2.cell? ⟨P + 1, 7, none⟩ = some (.int .u8 ((0 : Nat) : Int)) := HB.out.res.cs 6 (by omega)
        have g7 : w2.cell? ⟨P + 1 + 1, 7, none⟩ = some (.int .u8 ((0 : Nat) : Int)) := HB.out.g.cs 6 (by omega)
        have r8 : w2.cell? ⟨P + 1, 8, none⟩ = some (.int .u8 ((0 : Nat) : Int)) := HB.out.res.cs 7 (by omega)
        have g8 : w2.cell? ⟨P + 1 + 1, 8, none⟩ = some (.int .u8 ((0 : Nat) : Int)) := HB.out.g.cs 7 (by omega)
        have rf := HB.out.res.fr
        have gf := HB.out.g.fr
        generalize legCode (L k) = cd at *
        go_wp2
        refine bodyPost_ret (v := .tuple #[.agg (gArr n (fun _ => 0)), .int .i64 cd]) (by simp [results, Try.results44, go_sem, gArr, r0, r1, r2, r3, r4, r5, r6, r7, r8]) rfl ⟨n, fun _ => 0, by rw [HC.out], fun _ => (by decide : 0 < 256), fun h => ?_, ?_⟩
        · rw [HC.out] at h; exact absurd h HZ.out
        · exact (((((((((HB.out.bel).setCell HLE.out _).setCell HLE.out _).setCell HLE.out _).setCell HLE.out _).setCell HLE.out _).setCell HLE.out _).setCell HLE.out _).setCell HLE.out _).setCell HLE.out _
    · have HK : Hid (firstCode L n 0 = 0) := firstCode_zero fun j _ hj => HOK.out j (by omega)
      have hkn : k = n := by omega
      clear HOK
      go_upto_region 15 with fail
      obtain ⟨W2, hW2⟩ : ∃ W2, W2 = ((wr.alloc (.cells #[.int .u64 0, .int .u64 0, .int .u64 0, .int .u64 0] 139)).alloc (.cells Try.zeroCells140 140)) := ⟨_, rfl⟩
      have HQ : Hid (P + 1 + 1 < wr.heap.size) := World.block_lt_of_cell? _ _ g0
      have HB2 : Hid (BAt w W2 P a n cap n (fun _ => 0)) := by rw [hW2]; exact HB.out.below (below2 _ _ _)
      have HI2 : Hid (IdsAt W2 wr.heap.size (wr.heap.size + 1) (fun _ => 0) (fun _ => 0)) := by rw [hW2]; exact ids0 wr
      rw [← hW2]
      clear hW2 HB ar r0 r1 r2 r3 r4 r5 r6 r7 r8 g0 g1 g2 g3 g4 g5 g6 g7 g8 rf gf
      generalize wr.heap.size = q at *
      clear wr hkn hlt HB1
      go_wp2
      go_loopw [9] (fun s wx => ∃ (k2 : Nat) (S T : Nat → Nat), k2 ≤ n ∧ s = .int .i64 k2 ∧ BAt w wx P a n cap n (fun _ => 0) ∧ IdsAt wx q (q + 1) S T ∧ IdsOk L k2 S T) (fun i _ => n - (intOf i).toNat)
      case atStart => exact ⟨0, _, _, Nat.zero_le _, rfl, HB2.out, HI2.out, IdsOk.zero L⟩
      case round =>
        clear HB2 HI2 W2
        obtain ⟨k2, S, T, hk2, rfl, hbat, hids, hok⟩ := hrel
        have HB := hide hbat
        have HI := hide hids
        have HOK := hide hok
        clear hbat hids hok
        have ar := HB.out.arg
        have g0 := HB.out.g.c0
        by_cases hlt : k2 < n
        · obtain ⟨b, off, rfl, hc, hleg⟩ := (HL.out.below HB.out.bel) k2 hlt
          obtain ⟨d, hd⟩ : ∃ d : Nat, (L k2).id = (d : Int) := ⟨(L k2).id.toNat, by have := hleg.i0; omega⟩
          have hd256 : d < 256 := by have := hleg.i1; omega
          have hcd := hc 0 (by omega)
          rw [hleg.v0, hd, Nat.add_zero] at hcd
          clear hc hleg
          have HD := hide hd
          clear hd
          go_wp2_with fail
          simp only [Try.sizeOf95, Result.andThen]
          rw [Oper.upon_value]
          go_wp2_with fail
          refine (idhas_any _ q (S (d / 64)) d hd256 (HOK.out.lt _) (HI.out.s _ (by omega))).mono ?_
          rintro e w2 ⟨rfl, rfl⟩
          cases hb : (S (d / 64)).testBit (d % 64)
          · have HBF := hide hb
            clear hb
            go_wp2_with fail
            refine (idadd_any _ q (S (d / 64)) d hd256 (HOK.out.lt _) (HI.out.s _ (by omega)) (HI.out.sf _)).mono ?_
            rintro e w3 ⟨rfl, hw3⟩
            have HB3 : Hid (BAt w w3 P (some ⟨b, off, none⟩) n cap n (fun _ => 0)) := by rw [hw3]; exact (HB.out.other HQ.out).drew
            have HI3 : Hid (IdsAt w3 q (q + 1) (fun c => if c = d / 64 then S c ||| 2 ^ (d % 64) else S c) T) := by
              rw [hw3]
              have := (HI.out.setS (c := d / 64) (y := S (d / 64) ||| 2 ^ (d % 64)) (by omega) (by omega)).drew
              refine this.cong fun c => ?_
              by_cases e : c = d / 64
              · subst e; simp
              · simp [e]
            clear hw3 HB HI ar g0 hcd
            have f1 := HI3.out.tf d
            have c1 := HI3.out.t d hd256
            go_wp2
            go_roundw
            case rel =>
              refine ⟨k2 + 1, _, _, by omega, by go_num, HB3.out.other (by have := HQ.out; omega), ?_, HOK.out.add hd256 HD.out HBF.out⟩
              exact HI3.out.setT hd256 (by omega)
            case measure => simp [intOf]; omega
          · have HC : Hid (bCode n L = 65) := by
              obtain ⟨j, hj, ej⟩ := (HOK.out.mem d hd256).1 hb
              exact bCode65 h0 h8 HK.out ⟨j, k2, hj, hlt, by rw [ej, HD.out]⟩
            clear hb hcd ar g0
            have ar := HB.out.arg
            have r0 := HB.out.res.c0
            have g0 := HB.out.g.c0
            have r1 : w2.cell? ⟨P + 1, 1, none⟩ = some (.int .u8 ((0 : Nat) : Int)) := HB.out.res.cs 0 (by omega)
            have g1 : w2.cell? ⟨P + 1 + 1, 1, none⟩ = some (.int .u8 ((0 : Nat) : Int)) := HB.out.g.cs 0 (by omega)
            have r2 : w2.cell? ⟨P + 1, 2, none⟩ = some (.int .u8 ((0 : Nat) : Int)) := HB.out.res.cs 1 (by omega)
            have g2 : w2.cell? ⟨P + 1 + 1, 2, none⟩ = some (.int .u8 ((0 : Nat) : Int)) := HB.out.g.cs 1 (by omega)
            have r3 : w2.cell? ⟨P + 1, 3, none⟩ = some (.int .u8 ((0 : Nat) : Int)) := HB.out.res.cs 2 (by omega)
            have g3 : w2.cell? ⟨P + 1 + 1, 3, none⟩ = some (.int .u8 ((0 : Nat) : Int)) := HB.out.g.cs 2 (by omega)
            have r4 : w2.cell? ⟨P + 1, 4, none⟩ = some (.int .u8 ((0 : Nat) : Int)) := HB.out.res.cs 3 (by omega)
            have g4 : w2.cell? ⟨P + 1 + 1, 4, none⟩ = some (.int .u8 ((0 : Nat) : Int)) := HB.out.g.cs 3 (by omega)
            have r5 : w2.cell? ⟨P + 1, 5, none⟩ = some (.int .u8 ((0 : Nat) : Int)) := HB.out.res.cs 4 (by omega)
            have g5 : w2.cell? ⟨P + 1 + 1, 5, none⟩ = some (.int .u8 ((0 : Nat) : Int)) := HB.out.g.cs 4 (by omega)
            have r6 : w2.cell? ⟨P + 1, 6, none⟩ = some (.int .u8 ((0 : Nat) : Int)) := HB.out.res.cs 5 (by omega)
            have g6 : w2.cell? ⟨P + 1 + 1, 6, none⟩ = some (.int .u8 ((0 : Nat) : Int)) := HB.out.g.cs 5 (by omega)
            have r7 : w2.cell? ⟨P + 1, 7, none⟩ = some (.int .u8 ((0 : Nat) : Int)) := HB.out.res.cs 6 (by omega)
            have g7 : w2.cell? ⟨P + 1 + 1, 7, none⟩ = some (.int .u8 ((0 : Nat) : Int)) := HB.out.g.cs 6 (by omega)
            have r8 : w2.cell? ⟨P + 1, 8, none⟩ = some (.int .u8 ((0 : Nat) : Int)) := HB.out.res.cs 7 (by omega)
            have g8 : w2.cell? ⟨P + 1 + 1, 8, none⟩ = some (.int .u8 ((0 : Nat) : Int)) := HB.out.g.cs 7 (by omega)
            have rf := HB.out.res.fr
            have gf := HB.out.g.fr
            go_wp2
            refine bodyPost_ret (v := .tuple #[.agg (gArr (n) (fun _ => 0)), .int .i64 (65)]) (by simp [results, Try.results44, go_sem, gArr, r0, r1, r2, r3, r4, r5, r6, r7, r8]) rfl ⟨n, fun _ => 0, by rw [HC.out], fun _ => (by decide : 0 < 256), fun h => ?_, ?_⟩
            · rw [HC.out] at h; omega
            · exact (((((((((HB.out.bel).setCell HLE.out _).setCell HLE.out _).setCell HLE.out _).setCell HLE.out _).setCell HLE.out _).setCell HLE.out _).setCell HLE.out _).setCell HLE.out _).setCell HLE.out _

        · have hkn : k2 = n := by omega
          replace HOK : Hid (IdsOk L n S T) := by have := HOK.out; rw [hkn] at this; exact this
          clear hkn
          go_wp2
          clear ar g0 hlt
          go_loopw [11] (fun s wx => ∃ (k3 : Nat) (m : Nat → Nat), k3 ≤ n ∧ s = .int .i64 k3 ∧ BAt w wx P a n cap n m ∧ IdsAt wx q (q + 1) S T ∧ NB n L k3 0 m) (fun i _ => n - (intOf i).toNat)
          case atStart => exact ⟨0, _, Nat.zero_le _, rfl, HB.out, HI.out, NB.zero n L⟩
          case round =>
            clear HB HI
            obtain ⟨k3, m, hk3, rfl, hbat, hids, hnb⟩ := hrel
            have HB := hide hbat
            have HI := hide hids
            have HNB := hide hnb
            clear hbat hids hnb
            have ar := HB.out.arg
            have g0 := HB.out.g.c0
            by_cases hlt : k3 < n
            · obtain ⟨b, off, rfl, hc, hleg⟩ := (HL.out.below HB.out.bel) k3 hlt
              obtain ⟨na, hna⟩ : ∃ x, x = (L k3).na := ⟨_, rfl⟩
              have HND : Hid (NeedsAt w na (L k3).nn (L k3).nd) := by
                rw [hna]
                obtain ⟨_, _, _, _, hlg⟩ := HL.out k3 hlt
                exact hlg.nd
              have hnn := hleg.nn
              have hcd := hc 85 (by omega)
              rw [hleg.v85, ← hna] at hcd
              clear hc hleg hna
              go_wp2_with fail
              simp only [Try.sizeOf95, Result.andThen]
              rw [Oper.upon_value]
              go_wp2_with fail
              clear ar g0 hcd
              go_loopw [78] (fun s wx => ∃ (j3 : Nat) (m : Nat → Nat), j3 ≤ (L k3).nn ∧ s = .int .i64 j3 ∧ BAt w wx P (some ⟨b, off, none⟩) n cap n m ∧ IdsAt wx q (q + 1) S T ∧ NB n L k3 j3 m) (fun i _ => (L k3).nn - (intOf i).toNat)
              case atStart => exact ⟨0, m, Nat.zero_le _, rfl, HB.out, HI.out, HNB.out⟩
              case round =>
                clear HB HI HNB m
                obtain ⟨j3, m, hj3, rfl, hbat, hids, hnb⟩ := hrel
                have HB := hide hbat
                have HI := hide hids
                have HNB := hide hnb
                clear hbat hids hnb
                by_cases hq : j3 < (L k3).nn
                · obtain ⟨b', off', rfl, hcq, hr0, hr1⟩ := (HND.out.below HB.out.bel) j3 hq
                  obtain ⟨d, hd⟩ : ∃ d : Nat, (L k3).nd j3 = (d : Int) := ⟨((L k3).nd j3).toNat, by omega⟩
                  have hd256 : d < 256 := by omega
                  rw [hd] at hcq
                  have HD := hide hd
                  clear hd hr0 hr1
                  go_wp2_with fail
                  refine (idhas_any _ q (S (d / 64)) d hd256 (HOK.out.lt _) (HI.out.s _ (by omega))).mono ?_
                  rintro e w2 ⟨rfl, rfl⟩
                  cases hb : (S (d / 64)).testBit (d % 64)
                  · have HC : Hid (bCode n L = 66) := by
                      refine bCode66 h0 h8 HK.out HOK.out ⟨k3, j3, hlt, hq, fun j hj ej => ?_⟩
                      rw [(HOK.out.mem d hd256).2 ⟨j, hj, by rw [ej, HD.out]⟩] at hb
                      cases hb
                    clear hb hcq
                    have ar := HB.out.arg
                    have r0 := HB.out.res.c0
                    have g0 := HB.out.g.c0
                    have r1 : w2.cell? ⟨P + 1, 1, none⟩ = some (.int .u8 ((0 : Nat) : Int)) := HB.out.res.cs 0 (by omega)
                    have g1 : w2.cell? ⟨P + 1 + 1, 1, none⟩ = some (.int .u8 ((m 0 : Nat) : Int)) := HB.out.g.cs 0 (by omega)
                    have r2 : w2.cell? ⟨P + 1, 2, none⟩ = some (.int .u8 ((0 : Nat) : Int)) := HB.out.res.cs 1 (by omega)
                    have g2 : w2.cell? ⟨P + 1 + 1, 2, none⟩ = some (.int .u8 ((m 1 : Nat) : Int)) := HB.out.g.cs 1 (by omega)
                    have r3 : w2.cell? ⟨P + 1, 3, none⟩ = some (.int .u8 ((0 : Nat) : Int)) := HB.out.res.cs 2 (by omega)
                    have g3 : w2.cell? ⟨P + 1 + 1, 3, none⟩ = some (.int .u8 ((m 2 : Nat) : Int)) := HB.out.g.cs 2 (by omega)
                    have r4 : w2.cell? ⟨P + 1, 4, none⟩ = some (.int .u8 ((0 : Nat) : Int)) := HB.out.res.cs 3 (by omega)
                    have g4 : w2.cell? ⟨P + 1 + 1, 4, none⟩ = some (.int .u8 ((m 3 : Nat) : Int)) := HB.out.g.cs 3 (by omega)
                    have r5 : w2.cell? ⟨P + 1, 5, none⟩ = some (.int .u8 ((0 : Nat) : Int)) := HB.out.res.cs 4 (by omega)
                    have g5 : w2.cell? ⟨P + 1 + 1, 5, none⟩ = some (.int .u8 ((m 4 : Nat) : Int)) := HB.out.g.cs 4 (by omega)
                    have r6 : w2.cell? ⟨P + 1, 6, none⟩ = some (.int .u8 ((0 : Nat) : Int)) := HB.out.res.cs 5 (by omega)
                    have g6 : w2.cell? ⟨P + 1 + 1, 6, none⟩ = some (.int .u8 ((m 5 : Nat) : Int)) := HB.out.g.cs 5 (by omega)
                    have r7 : w2.cell? ⟨P + 1, 7, none⟩ = some (.int .u8 ((0 : Nat) : Int)) := HB.out.res.cs 6 (by omega)
                    have g7 : w2.cell? ⟨P + 1 + 1, 7, none⟩ = some (.int .u8 ((m 6 : Nat) : Int)) := HB.out.g.cs 6 (by omega)
                    have r8 : w2.cell? ⟨P + 1, 8, none⟩ = some (.int .u8 ((0 : Nat) : Int)) := HB.out.res.cs 7 (by omega)
                    have g8 : w2.cell? ⟨P + 1 + 1, 8, none⟩ = some (.int .u8 ((m 7 : Nat) : Int)) := HB.out.g.cs 7 (by omega)
                    have rf := HB.out.res.fr
                    have gf := HB.out.g.fr
                    go_wp2
                    refine bodyPost_ret (v := .tuple #[.agg (gArr (n) (m)), .int .i64 (66)]) (by simp [results, Try.results44, go_sem, gArr, r0, r1, r2, r3, r4, r5, r6, r7, r8]) rfl ⟨n, m, by rw [HC.out], HNB.out.lt (by omega), fun h => ?_, ?_⟩
                    · rw [HC.out] at h; omega
                    · exact (((((((((HB.out.bel).setCell HLE.out _).setCell HLE.out _).setCell HLE.out _).setCell HLE.out _).setCell HLE.out _).setCell HLE.out _).setCell HLE.out _).setCell HLE.out _).setCell HLE.out _

                  · obtain ⟨j0, hj0, ej0⟩ := (HOK.out.mem d hd256).1 hb
                    have HJ := hide ej0
                    have hTd := HOK.out.pl j0 hj0 d ej0
                    clear ej0 hb hcq
                    have c1 := HI.out.t d hd256
                    rw [hTd] at c1
                    have c2 := HB.out.g.cs k3 (by omega)
                    have f2 := HB.out.g.fr (1 + k3)
                    have hm := HNB.out.lt (by omega) k3
                    clear hTd
                    go_upto_region 31 with fail
                    go_region
                    rw [or_pow8' (m k3) j0 hm (by omega)]
                    obtain ⟨w3, hw3⟩ : ∃ w3, w3 = (w2.setCell ⟨P + 1 + 1, 1 + k3, none⟩ (.int .u8 ((m k3 ||| 2 ^ j0 : Nat) : Int))).drew := ⟨_, rfl⟩
                    have HB3 : Hid (BAt w w3 P (some ⟨b, off, none⟩) n cap n (fun j => if j = k3 then m k3 ||| 2 ^ j0 else m j)) := by rw [hw3]; exact (HB.out.setM (by omega)).drew
                    have HI3 : Hid (IdsAt w3 q (q + 1) S T) := by rw [hw3]; exact (HI.out.other (by have := HQ.out; omega) (by have := HQ.out; omega)).drew
                    rw [← hw3]
                    clear hw3 c1 c2 f2
                    go_wp2
                    go_roundw
                    case rel => exact ⟨j3 + 1, _, by omega, by go_num, HB3.out, HI3.out, HNB.out.step HOK.out hj0 (by rw [HJ.out, HD.out])⟩
                    case measure => simp [intOf]; omega
                · have hjn : j3 = (L k3).nn := by omega
                  replace HNB : Hid (NB n L k3 (L k3).nn m) := by have := HNB.out; rw [hjn] at this; exact this
                  clear hjn
                  go_wp2
                  go_roundw
                  case rel => exact ⟨k3 + 1, m, by omega, by go_num, HB.out, HI.out, HNB.out.next⟩
                  case measure => simp [intOf]; omega
            · have hk3n : k3 = n := by omega
              replace HNB : Hid (NB n L n 0 m) := by have := HNB.out; rw [hk3n] at this; exact this
              have HC : Hid (bCode n L = 0) := bCode0 h0 h8 HK.out HOK.out HNB.out
              clear ar g0 hk3n
              have ar := HB.out.arg
              have r0 := HB.out.res.c0
              have g0 := HB.out.g.c0
              have r1 : wr.cell? ⟨P + 1, 1, none⟩ = some (.int .u8 ((0 : Nat) : Int)) := HB.out.res.cs 0 (by omega)
              have g1 : wr.cell? ⟨P + 1 + 1, 1, none⟩ = some (.int .u8 ((m 0 : Nat) : Int)) := HB.out.g.cs 0 (by omega)
              have r2 : wr.cell? ⟨P + 1, 2, none⟩ = some (.int .u8 ((0 : Nat) : Int)) := HB.out.res.cs 1 (by omega)
              have g2 : wr.cell? ⟨P + 1 + 1, 2, none⟩ = some (.int .u8 ((m 1 : Nat) : Int)) := HB.out.g.cs 1 (by omega)
              have r3 : wr.cell? ⟨P + 1, 3, none⟩ = some (.int .u8 ((0 : Nat) : Int)) := HB.out.res.cs 2 (by omega)
              have g3 : wr.cell? ⟨P + 1 + 1, 3, none⟩ = some (.int .u8 ((m 2 : Nat) : Int)) := HB.out.g.cs 2 (by omega)
              have r4 : wr.cell? ⟨P + 1, 4, none⟩ = some (.int .u8 ((0 : Nat) : Int)) := HB.out.res.cs 3 (by omega)
              have g4 : wr.cell? ⟨P + 1 + 1, 4, none⟩ = some (.int .u8 ((m 3 : Nat) : Int)) := HB.out.g.cs 3 (by omega)
              have r5 : wr.cell? ⟨P + 1, 5, none⟩ = some (.int .u8 ((0 : Nat) : Int)) := HB.out.res.cs 4 (by omega)
              have g5 : wr.cell? ⟨P + 1 + 1, 5, none⟩ = some (.int .u8 ((m 4 : Nat) : Int)) := HB.out.g.cs 4 (by omega)
              have r6 : wr.cell? ⟨P + 1, 6, none⟩ = some (.int .u8 ((0 : Nat) : Int)) := HB.out.res.cs 5 (by omega)
              have g6 : wr.cell? ⟨P + 1 + 1, 6, none⟩ = some (.int .u8 ((m 5 : Nat) : Int)) := HB.out.g.cs 5 (by omega)
              have r7 : wr.cell? ⟨P + 1, 7, none⟩ = some (.int .u8 ((0 : Nat) : Int)) := HB.out.res.cs 6 (by omega)
              have g7 : wr.cell? ⟨P + 1 + 1, 7, none⟩ = some (.int .u8 ((m 6 : Nat) : Int)) := HB.out.g.cs 6 (by omega)
              have r8 : wr.cell? ⟨P + 1, 8, none⟩ = some (.int .u8 ((0 : Nat) : Int)) := HB.out.res.cs 7 (by omega)
              have g8 : wr.cell? ⟨P + 1 + 1, 8, none⟩ = some (.int .u8 ((m 7 : Nat) : Int)) := HB.out.g.cs 7 (by omega)
              have rf := HB.out.res.fr
              have gf := HB.out.g.fr
              go_wp2
              refine bodyPost_ret (v := .tuple #[.agg (gArr n m), .int .i64 0]) (by simp [results, Try.results44, go_sem, gArr, r0, r1, r2, r3, r4, r5, r6, r7, r8]) rfl ⟨n, m, by rw [HC.out], HNB.out.lt (by omega), fun _ => ⟨rfl, HNB.out.done⟩, ?_⟩
              exact (((((((((HB.out.bel).setCell HLE.out _).setCell HLE.out _).setCell HLE.out _).setCell HLE.out _).setCell HLE.out _).setCell HLE.out _).setCell HLE.out _).setCell HLE.out _).setCell HLE.out _
end Go.Proofs.Qxb6500784a
