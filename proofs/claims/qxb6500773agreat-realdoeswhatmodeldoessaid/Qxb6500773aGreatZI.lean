import Derived.Test.Qxb6500773aGreatZH
namespace Go.Proofs.Qxb6500773aGreat
open Go.RowKit

theorem Heap.sw {D : List Int} {e : Nat} (h : Heap D 0 (e + 1)) (hl : e < D.length) : Heap (swL D 0 e) (0 + 1) e := by
  have g : ∀ k, gt (swL D 0 e) k = if k = e then gt D 0 else if k = 0 then gt D e else gt D k := fun k => gt_sw (by omega) (by omega)
  intro p q hp hq hn
  rw [g p, g q, if_neg (by omega), if_neg (by omega), if_neg (by omega), if_neg (by omega)]
  exact h p q (Nat.zero_le _) hq (by omega)
set_option linter.unusedSimpArgs false in
set_option maxRecDepth 100000 in
set_option maxHeartbeats 16000000 in
/-- cnf.heapSort -/
theorem heapSort_any (w : World) (B g n c : Nat) (C : List Int) (h : RW w B g n c C) (hn : 2 ≤ n) (hl : n ≤ 1000000000) :
    Calls Tryz.prog 147 #[.slice (some ⟨g, 0, none⟩) n c] w (SoPost w B g n c C) := by
  have HR0 := hide h
  have HH0 : Hid (Heap C (n / 2) n) := heap_far C n
  clear h
  have hq0 : ((n : Int) / 2) = ((n / 2 : Nat) : Int) := by omega
  have hq1 : (n : Int).tdiv 2 = ((n / 2 : Nat) : Int) := by rw [Int.tdiv_eq_ediv_of_nonneg (by omega)]; omega
  have hq2 : wrap64 (((n / 2 : Nat) : Int) - 1) = ((n / 2 : Nat) : Int) - 1 := by unfold wrap64; omega
  have hn1 : wrap64 ((n : Int) - 1) = ((n - 1 : Nat) : Int) := by unfold wrap64; omega
  obtain ⟨z, hz⟩ : ∃ z, n / 2 = z := ⟨_, rfl⟩
  have HZ : Hid (z ≤ n) := by show _ ≤ _; omega
  rw [hz] at hq0 hq1 hq2 HH0
  clear hz
  go_enter Tryz.func147, Tryz.ntmps147
  go_wp2_with fail
  go_loopw [3] (fun s3 wr => ∃ (k : Nat) (D : List Int), s3 = .int .i64 ((k : Int) - 1) ∧ k ≤ z ∧ Hid (Heap D k n) ∧ Hid (D.Perm C) ∧ Hid (RW wr B g n c D) ∧ Hid (Ex (fun k => k = g) w wr)) (fun s3 _ => (intOf s3 + 1).toNat)
  case atStart => exact ⟨z, C, rfl, Nat.le_refl _, HH0, List.Perm.refl _, HR0, Ex.refl _ _⟩
  case round =>
    clear HR0 HH0
    obtain ⟨k, D, rfl, hk, HH, HPm, HR, HE⟩ := hrel
    by_cases hk0 : k = 0
    · rw [show ((k : Int) - 1) = -1 by omega]
      subst hk0
      have hkb : decide ((0 : Int) ≤ -1) = false := by decide
      have HS0 : Hid (Hs D ((n - 1) + 1)) := by
        have e : D.length = n := HR.out.len
        show Hs _ _
        have := Hs.first (C := D) (by rw [e]; exact HH.out)
        rw [e] at this
        rw [show n - 1 + 1 = n by omega]
        exact this
      clear HH
      go_wp2_with fail
      go_loopw [4] (fun s4 wx => ∃ (e : Nat) (D : List Int), s4 = .int .i64 e ∧ e < n ∧ Hid (Hs D (e + 1)) ∧ Hid (D.Perm C) ∧ Hid (RW wx B g n c D) ∧ Hid (Ex (fun k => k = g) w wx)) (fun s4 _ => (intOf s4).toNat)
      case atStart => exact ⟨n - 1, D, congrArg (Value.int .i64) (by omega), by omega, HS0, HPm, HR, HE⟩
      case round =>
        clear HS0 HPm HR HE D
        obtain ⟨e, D, rfl, he, HS, HPm, HR, HE⟩ := hrel
        by_cases he0 : 0 < e
        · have heb : decide ((0 : Int) < (e : Int)) = true := decide_eq_true (by omega)
          have hei : (e : Int) < (n : Int) := by omega
          have hni : (0 : Int) < (n : Int) := by omega
          have hw : wrap64 ((e : Int) - 1) = ((e - 1 : Nat) : Int) := by unfold wrap64; omega
          have hDL := HR.out.len
          have hrf := HR.out.fz
          have x0 := HR.out.cell (i := 0) (by omega)
          have xe := HR.out.cell (i := e) (by omega)
          have HQ : Hid (Heap (swL D 0 e) (0 + 1) e) := HS.out.heap.sw (by omega)
          have HP2 : Hid ((swL D 0 e).Perm C) := (sw_perm D (by omega) (by omega)).trans HPm.out
          have HST : Hid (∀ C', Sft (swL D 0 e) C' e → Heap C' 0 e → Hs C' e) := fun C' h1 h2 => HS.out.step he0 (by omega) h1 h2
          have HV : Hid (swL D 0 e = (D.set 0 (gt D e)).set e (gt D 0)) := rfl
          generalize swL D 0 e = D2 at *
          generalize gt D e = ve at *
          generalize gt D 0 = v0 at *
          have HR2 := hide (show ∀ k, RW ((((wr).setCell ⟨g, 0, none⟩ (.int .i32 ve)).setCell ⟨g, e, none⟩ (.int .i32 v0)).drewN k) B g n c D2 from fun k => by
            have z := (HR.out.put 0 ve).put e v0
            rw [← HV.out] at z
            exact z.keep ((Ex.refl (fun _ => False) _).drewN k) (fun z => z))
          have HE2 := hide (show ∀ k, Ex (fun k => k = g) w ((((wr).setCell ⟨g, 0, none⟩ (.int .i32 ve)).setCell ⟨g, e, none⟩ (.int .i32 v0)).drewN k) from fun k => (((HE.out).set (p := g) rfl _).set (p := g) rfl _).drewN k)
          clear HR HE HV HS HPm hDL
          go_upto_region 8 with fail
          go_region
          all_goals
            have HR3 : Hid (RW (((wr).setCell ⟨g, 0, none⟩ (.int .i32 ve)).setCell ⟨g, e, none⟩ (.int .i32 v0)).drew B g n c D2) := HR2.out 1
            have HE3 : Hid (Ex (fun k => k = g) w (((wr).setCell ⟨g, 0, none⟩ (.int .i32 ve)).setCell ⟨g, e, none⟩ (.int .i32 v0)).drew) := HE2.out 1
            clear HR2 HE2 x0 xe hrf
            generalize ((wr.setCell ⟨g, 0, none⟩ (.int .i32 ve)).setCell ⟨g, e, none⟩ (.int .i32 v0)).drew = w2 at *
            have sd := siftDown_any w2 B g n c D2 0 e HR3.out HQ.out he0 (by omega) hl
            rw [show ((0 : Nat) : Int) = 0 from rfl] at sd
            have SD := hide sd
            clear sd
            go_wp2_with fail
            refine SD.out.mono ?_
            rintro e' w3 ⟨rfl, D3, hsf, hhp, hrw, hex⟩
            have HS4 : Hid (Hs D3 ((e - 1) + 1)) := by
              show Hs _ _
              rw [show e - 1 + 1 = e by omega]
              exact HST.out D3 hsf hhp
            have HP4 : Hid (D3.Perm C) := hsf.perm.trans HP2.out
            have HR4 := hide hrw
            have HE4 : Hid (Ex (fun k => k = g) w w3) := HE3.out.trans hex
            clear hsf hhp hrw hex HR3 HE3 HST HQ HP2 SD
            go_wp2
            go_roundw
            case rel => exact ⟨e - 1, D3, by go_num, by omega, HS4, HP4, HR4, HE4⟩
            case measure => (simp [intOf]; try omega)
        · obtain rfl : e = 0 := by omega
          have HP : Hid (SoPost w B g n c C (.returned (.tuple #[])) wr) := ⟨rfl, D, HPm.out, HS.out.last (by omega), HR.out, HE.out⟩
          clear HS HPm HR HE
          go_wp2_with (first | with_reducible refine bodyPost_ret (v := .tuple #[]) ?hr ?hd ?hp | with_reducible refine bodyPost_nrm (v := .tuple #[]) ?hr ?hd ?hp)
          case hr => exact results_nil Tryz.results147
          case hd => rfl
          case hp => exact HP.out
    · obtain ⟨j, rfl⟩ : ∃ j, k = j + 1 := ⟨k - 1, by omega⟩
      have hkj : (((j + 1 : Nat) : Int) - 1) = (j : Int) := by omega
      have hkb : decide ((0 : Int) ≤ (j : Int)) = true := decide_eq_true (by omega)
      have hw : wrap64 ((j : Int) - 1) = (j : Int) - 1 := by unfold wrap64; omega
      have hz := HZ.out
      rw [hkj]
      clear hkj hk0
      go_wp2_with fail
      refine (siftDown_any wr B g n c D j n HR.out HH.out (by omega) (Nat.le_refl _) hl).mono ?_
      rintro e' w3 ⟨rfl, D3, hsf, hhp, hrw, hex⟩
      have HS4 := hide hhp
      have HP4 : Hid (D3.Perm C) := hsf.perm.trans HPm.out
      have HR4 := hide hrw
      have HE4 : Hid (Ex (fun k => k = g) w w3) := HE.out.trans hex
      clear hsf hhp hrw hex HR HE HH HPm
      go_wp2
      go_roundw
      case rel => exact ⟨j, D3, by go_num, by omega, HS4, HP4, HR4, HE4⟩
      case measure => (simp [intOf]; try omega)
set_option linter.unusedSimpArgs false in
set_option maxRecDepth 100000 in
set_option maxHeartbeats 8000000 in
/-- cnf.Clause.IsSorted -/
theorem isSorted_any (w : World) (B g n c : Nat) (C : List Int) (h : RW w B g n c C) (hl : n ≤ 1000000000) :
    Calls Tryz.prog 146 #[.slice (some ⟨g, 0, none⟩) n c] w fun e w' => ∃ b, e = .returned (.bool b) ∧ (b = true → Srt C) ∧ ∃ m, w' = w.drewN m := by
  have HR0 := hide h
  clear h
  go_enter Tryz.func146, Tryz.ntmps146
  go_wp2_with fail
  go_loopw [3] (fun s3 wr => ∃ (i m : Nat), s3 = .int .i64 i ∧ 1 ≤ i ∧ i ≤ n + 1 ∧ wr = w.drewN m ∧ Hid (∀ a b, a < b → b < i → b < n → gt C a ≤ gt C b)) (fun s3 _ => n + 1 - (intOf s3).toNat)
  case atStart => exact ⟨1, 0, rfl, Nat.le_refl _, by omega, rfl, (fun a b h1 h2 => by omega)⟩
  case round =>
    obtain ⟨i, m, rfl, hi1, hi2, hwr, HS⟩ := hrel
    have HWR := hide hwr
    have HR := hide (show RW wr B g n c C by rw [hwr]; exact HR0.out.keep ((Ex.refl (fun _ => False) w).drewN m) (fun z => z))
    clear hwr HR0
    by_cases hi : i < n
    · have hib : decide ((i : Int) < (n : Int)) = true := decide_eq_true (by omega)
      have hii : (i : Int) < (n : Int) := by omega
      have hw0 : IntKind.i64.wrap ((i : Int) - 1) = ((i - 1 : Nat) : Int) := by rw [IntKind.wrap_i64]; omega
      have hji : ((i - 1 : Nat) : Int) < (n : Int) := by omega
      have hw1 : wrap64 ((i : Int) + 1) = ((i + 1 : Nat) : Int) := by unfold wrap64; omega
      have x0 := HR.out.cell hi
      have x1 := HR.out.cell (i := i - 1) (by omega)
      by_cases hc : gt C i < gt C (i - 1)
      · have hcb : decide (gt C i < gt C (i - 1)) = true := decide_eq_true hc
        clear HS HR hc
        generalize gt C i = v0 at *
        generalize gt C (i - 1) = v1 at *
        generalize i - 1 = i1 at *
        go_upto_region 4 with fail
        go_quiet (fail)
        rename_i nq
        go_wp2
        go_ret
        exact ⟨false, rfl, (fun z => by cases z), m + nq, by rw [HWR.out, World.drewN_drewN]⟩
      · have hcb : decide (gt C i < gt C (i - 1)) = false := decide_eq_false hc
        have HS2 : Hid (∀ a b, a < b → b < i + 1 → b < n → gt C a ≤ gt C b) := fun a b h1 h2 h3 => by
          by_cases e : b = i
          · subst e
            by_cases e2 : a = b - 1
            · rw [e2]; omega
            · exact Int.le_trans (HS.out a (b - 1) (by omega) (by omega) (by omega)) (by omega)
          · exact HS.out a b h1 (by omega) h3
        clear HS HR hc
        generalize gt C i = v0 at *
        generalize gt C (i - 1) = v1 at *
        generalize i - 1 = i1 at *
        go_upto_region 4 with fail
        go_quiet (fail)
        rename_i nq
        go_wp2
        go_roundw
        case rel => exact ⟨i + 1, m + nq, by go_num, by omega, by omega, by rw [HWR.out, World.drewN_drewN], HS2⟩
        case measure => (simp [intOf]; try omega)
    · have hib : decide ((i : Int) < (n : Int)) = false := decide_eq_false (by omega)
      go_wp2
      go_ret
      exact ⟨true, rfl, fun _ a b h1 h2 => HS.out a b h1 (by rw [HR.out.len] at h2; omega) (by rw [HR.out.len] at h2; omega), m, HWR.out⟩
set_option linter.unusedSimpArgs false in
set_option maxRecDepth 100000 in
set_option maxHeartbeats 8000000 in
/-- cnf.Clause.Sort -/
theorem sort_any (w : World) (B g n c : Nat) (C : List Int) (h : RW w B g n c C) (hl : n ≤ 1000000000) :
    Calls Tryz.prog 101 #[.slice (some ⟨g, 0, none⟩) n c] w (SoPost w B g n c C) := by
  by_cases h16 : n ≤ 16
  · have hb : decide ((n : Int) ≤ 16) = true := decide_eq_true (by omega)
    have cc := insSort_any w B g n c C h hl
    clear h
    go_enter Tryz.func101, Tryz.ntmps101
    go_wp2_with fail
    refine cc.mono ?_
    rintro e w' HP
    have hp := hide HP
    obtain ⟨rfl, _⟩ := HP
    clear cc
    go_wp2_with (first | with_reducible refine bodyPost_ret (v := .tuple #[]) ?hr ?hd ?hp | with_reducible refine bodyPost_nrm (v := .tuple #[]) ?hr ?hd ?hp)
    case hr => exact results_nil Tryz.results101
    case hd => rfl
    case hp => exact hp.out
  · have hb : decide ((n : Int) ≤ 16) = false := decide_eq_false (by omega)
    have cs := isSorted_any w B g n c C h hl
    have HR := hide h
    clear h
    go_enter Tryz.func101, Tryz.ntmps101
    go_wp2_with fail
    refine cs.mono ?_
    rintro e w' ⟨b, rfl, hS, m, hw'⟩
    clear cs
    have HR2 := hide (show RW w' B g n c C by rw [hw']; exact HR.out.keep ((Ex.refl (fun _ => False) w).drewN m) (fun z => z))
    have HE2 := hide (show Ex (fun k => k = g) w w' by rw [hw']; exact (Ex.refl _ w).drewN m)
    clear hw' HR
    cases b
    · clear hS
      have cc := heapSort_any w' B g n c C HR2.out (by omega) hl
      go_wp2_with fail
      refine cc.mono ?_
      rintro e w3 ⟨rfl, C', h1, h2, h3, h4⟩
      have HP : Hid (SoPost w B g n c C (.returned (.tuple #[])) w3) := ⟨rfl, C', h1, h2, h3, HE2.out.trans h4⟩
      clear cc h1 h2 h3 h4
      go_wp2_with (first | with_reducible refine bodyPost_ret (v := .tuple #[]) ?hr ?hd ?hp | with_reducible refine bodyPost_nrm (v := .tuple #[]) ?hr ?hd ?hp)
      case hr => exact results_nil Tryz.results101
      case hd => rfl
      case hp => exact HP.out
    · have HP : Hid (SoPost w B g n c C (.returned (.tuple #[])) w') := ⟨rfl, C, List.Perm.refl _, hS rfl, HR2.out, HE2.out⟩
      clear hS HR2 HE2
      go_wp2_with (first | with_reducible refine bodyPost_ret (v := .tuple #[]) ?hr ?hd ?hp | with_reducible refine bodyPost_nrm (v := .tuple #[]) ?hr ?hd ?hp)
      case hr => exact results_nil Tryz.results101
      case hd => rfl
      case hp => exact HP.out
end Go.Proofs.Qxb6500773aGreat
