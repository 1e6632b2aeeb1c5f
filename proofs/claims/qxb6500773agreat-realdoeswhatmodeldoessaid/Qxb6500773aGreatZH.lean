import Derived.Test.Qxb6500773aGreatZG
namespace Go.Proofs.Qxb6500773aGreat
open Go.RowKit

def SdPost (w : World) (B g n c r m : Nat) (C : List Int) (e : Ending) (w' : World) : Prop :=
  e = .returned (.tuple #[]) ∧ ∃ D, Sft C D m ∧ Heap D r m ∧ RW w' B g n c D ∧ Ex (fun k => k = g) w w'
set_option linter.unusedSimpArgs false in
set_option maxRecDepth 100000 in
set_option maxHeartbeats 16000000 in
/-- cnf.siftDown -/
theorem siftDown_any (w : World) (B g n c : Nat) (C : List Int) (r m : Nat) (h : RW w B g n c C) (hH : Heap C (r + 1) m) (hrm : r < m) (hmn : m ≤ n) (hl : n ≤ 1000000000) :
    Calls Tryz.prog 159 #[.slice (some ⟨g, 0, none⟩) n c, .int .i64 r, .int .i64 m] w (SdPost w B g n c r m C) := by
  have HR0 := hide h
  have HH0 : Hid (Hole C r m r) := hH.hole
  clear h hH
  go_enter Tryz.func159, Tryz.ntmps159
  go_wp2_with fail
  go_loopw [1, 6] (fun s1 _ wr => ∃ (t : Nat) (D : List Int), s1 = .int .i64 t ∧ t < m ∧ Hid (Sft C D m) ∧ Hid (Hole D r m t) ∧ Hid (RW wr B g n c D) ∧ Hid (Ex (fun k => k = g) w wr)) (fun s1 _ _ => m - (intOf s1).toNat)
  case atStart => exact ⟨r, C, rfl, hrm, Sft.refl _ _, HH0, HR0, Ex.refl _ _⟩
  case round =>
    clear HR0 HH0 hrm
    obtain ⟨t, D, rfl, htm, HS, HH, HR, HE⟩ := hrel
    obtain ⟨q, hq⟩ : ∃ q, q = 2 * t + 1 := ⟨_, rfl⟩
    have hw1 : wrap64 (2 * (t : Int)) = 2 * (t : Int) := by unfold wrap64; omega
    have hw2 : wrap64 (2 * (t : Int) + 1) = (q : Int) := by unfold wrap64; omega
    have hw3 : wrap64 ((q : Int) + 1) = ((q + 1 : Nat) : Int) := by unfold wrap64; omega
    have hw4 : IntKind.i64.wrap ((q : Int) + 1) = ((q + 1 : Nat) : Int) := by rw [IntKind.wrap_i64]; omega
    have hDL := HR.out.len
    go_upto_region 1 with fail
    rw [show 2 * (t : Int) + 1 = (q : Int) by omega]
    clear hw1 hw2
    have hrf := HR.out.fz
    by_cases hqm : q < m
    · have hqb : decide ((m : Int) ≤ (q : Int)) = false := decide_eq_false (by omega)
      have xt := HR.out.cell (i := t) (by omega)
      have xq := HR.out.cell (i := q) (by omega)
      have hti : (t : Int) < (n : Int) := by omega
      have hqi : (q : Int) < (n : Int) := by omega
      by_cases hs1 : q + 1 < m
      · have hsb : decide (((q + 1 : Nat) : Int) < (m : Int)) = true := decide_eq_true (by omega)
        have xs := HR.out.cell (i := q + 1) (by omega)
        have hs0 : decide (((q + 1 : Nat) : Int) < 0) = false := decide_eq_false (by omega)
        have hsi : ((q + 1 : Nat) : Int) < (n : Int) := by omega
        by_cases hs2 : gt D q < gt D (q + 1)
        · have hsc : decide (gt D q < gt D (q + 1)) = true := decide_eq_true hs2
          have hbig : ∀ k, (k = 2 * t + 1 ∨ k = 2 * t + 2) → k < m → gt D k ≤ gt D (q + 1) := fun k hk hkm => by
            rcases hk with z | z
            · rw [show k = q by omega]; omega
            · rw [show k = q + 1 by omega]; exact Int.le_refl _
          by_cases hx : gt D (q + 1) ≤ gt D t
          · have hxb : decide (gt D (q + 1) ≤ gt D t) = true := decide_eq_true hx
            have HF : Hid (Heap D r m) := HH.out.stop (fun k hk hkm => Int.le_trans (hbig k hk hkm) hx)
            have HP2 := hide (fun nq nq2 => show SdPost w B g n c r m C (.returned (.tuple #[])) ((wr.drewN nq).drewN nq2) from ⟨rfl, D, HS.out, HF.out, HR.out.keep (((Ex.refl (fun _ => False) wr).drewN nq).drewN nq2) (fun z => z), (HE.out.drewN nq).drewN nq2⟩)
            clear hbig hx HH HS HR HE HF hDL hq hs2
            generalize gt D (q + 1) = vs at *
            generalize gt D q = vq at *
            generalize gt D t = vt at *
            generalize hq1 : q + 1 = q' at *
            clear hq1
            go_upto_region 2 with fail
            go_quiet (fail)
            rename_i nq
            go_upto_region 4 with fail
            go_quiet (fail)
            rename_i nq2
            go_wp2_with (first | with_reducible refine bodyPost_ret (v := .tuple #[]) ?hr ?hd ?hp | with_reducible refine bodyPost_nrm (v := .tuple #[]) ?hr ?hd ?hp)
            case hr => exact results_nil Tryz.results159
            case hd => rfl
            case hp => exact HP2.out _ _
          · have hxb : decide (gt D (q + 1) ≤ gt D t) = false := decide_eq_false hx
            have HH2 : Hid (Hole (swL D t (q + 1)) r m (q + 1)) := HH.out.step (by omega) (by omega) (by omega) hbig (by omega)
            have HS2 : Hid (Sft C (swL D t (q + 1)) m) := HS.out.step (by omega) (by omega) (by omega)
            have htc : t < (q + 1) := by omega
            have HT : Hid (t < (q + 1) ∧ (q + 1) < m) := ⟨by omega, by omega⟩
            clear hbig hx HH HS hDL hq hs2
            have HV : Hid (swL D t (q + 1) = (D.set t (gt D (q + 1))).set (q + 1) (gt D t)) := rfl
            generalize swL D t (q + 1) = D2 at *
            have HRk := HR
            generalize gt D (q + 1) = vs at *
            generalize gt D q = vq at *
            generalize gt D t = vt at *
            generalize hq1 : q + 1 = q' at *
            clear hq1
            go_upto_region 2 with fail
            go_quiet (fail)
            rename_i nq
            go_upto_region 4 with fail
            go_quiet (fail)
            rename_i nq2
            go_upto_region 5 with fail
            have HR2 := hide (show ∀ k, RW (((wr.drewN k).setCell ⟨g, t, none⟩ (.int .i32 vs)).setCell ⟨g, q', none⟩ (.int .i32 vt)) B g n c D2 from fun k => by
              have z := ((HR.out.keep ((Ex.refl (fun _ => False) wr).drewN k) (fun z => z)).put t vs).put q' vt
              rw [← HV.out] at z
              exact z)
            have HE2 := hide (show ∀ k, Ex (fun k => k = g) w (((wr.drewN k).setCell ⟨g, t, none⟩ (.int .i32 vs)).setCell ⟨g, q', none⟩ (.int .i32 vt)) from fun k => (((HE.out.drewN k).set (p := g) rfl _).set (p := g) rfl _))
            clear HR HE HV HRk
            go_region
            all_goals
              clear hrf xt xq
              go_wp2
              go_roundw
              case rel => exact ⟨q', D2, by go_num, by have := HT.out; omega, HS2, HH2, HR2.out _, HE2.out _⟩
              case measure => (have := HT.out; simp [intOf]; try omega)
        · have hsc : decide (gt D q < gt D (q + 1)) = false := decide_eq_false hs2
          have hbig : ∀ k, (k = 2 * t + 1 ∨ k = 2 * t + 2) → k < m → gt D k ≤ gt D q := fun k hk hkm => by
            rcases hk with z | z
            · rw [show k = q by omega]; exact Int.le_refl _
            · rw [show k = q + 1 by omega]; omega
          by_cases hx : gt D q ≤ gt D t
          · have hxb : decide (gt D q ≤ gt D t) = true := decide_eq_true hx
            have HF : Hid (Heap D r m) := HH.out.stop (fun k hk hkm => Int.le_trans (hbig k hk hkm) hx)
            have HP2 := hide (fun nq nq2 => show SdPost w B g n c r m C (.returned (.tuple #[])) ((wr.drewN nq).drewN nq2) from ⟨rfl, D, HS.out, HF.out, HR.out.keep (((Ex.refl (fun _ => False) wr).drewN nq).drewN nq2) (fun z => z), (HE.out.drewN nq).drewN nq2⟩)
            clear hbig hx HH HS HR HE HF hDL hq hs2
            generalize gt D (q + 1) = vs at *
            generalize gt D q = vq at *
            generalize gt D t = vt at *
            generalize hq1 : q + 1 = q' at *
            clear hq1
            go_upto_region 2 with fail
            go_quiet (fail)
            rename_i nq
            go_upto_region 4 with fail
            go_quiet (fail)
            rename_i nq2
            go_wp2_with (first | with_reducible refine bodyPost_ret (v := .tuple #[]) ?hr ?hd ?hp | with_reducible refine bodyPost_nrm (v := .tuple #[]) ?hr ?hd ?hp)
            case hr => exact results_nil Tryz.results159
            case hd => rfl
            case hp => exact HP2.out _ _
          · have hxb : decide (gt D q ≤ gt D t) = false := decide_eq_false hx
            have HH2 : Hid (Hole (swL D t q) r m q) := HH.out.step (by omega) (by omega) (by omega) hbig (by omega)
            have HS2 : Hid (Sft C (swL D t q) m) := HS.out.step (by omega) (by omega) (by omega)
            have htc : t < q := by omega
            have HT : Hid (t < q ∧ q < m) := ⟨by omega, by omega⟩
            clear hbig hx HH HS hDL hq hs2
            have HV : Hid (swL D t q = (D.set t (gt D q)).set q (gt D t)) := rfl
            generalize swL D t q = D2 at *
            have HRk := HR
            generalize gt D (q + 1) = vs at *
            generalize gt D q = vq at *
            generalize gt D t = vt at *
            generalize hq1 : q + 1 = q' at *
            clear hq1
            go_upto_region 2 with fail
            go_quiet (fail)
            rename_i nq
            go_upto_region 4 with fail
            go_quiet (fail)
            rename_i nq2
            go_upto_region 5 with fail
            have HR2 := hide (show ∀ k, RW (((wr.drewN k).setCell ⟨g, t, none⟩ (.int .i32 vq)).setCell ⟨g, q, none⟩ (.int .i32 vt)) B g n c D2 from fun k => by
              have z := ((HR.out.keep ((Ex.refl (fun _ => False) wr).drewN k) (fun z => z)).put t vq).put q vt
              rw [← HV.out] at z
              exact z)
            have HE2 := hide (show ∀ k, Ex (fun k => k = g) w (((wr.drewN k).setCell ⟨g, t, none⟩ (.int .i32 vq)).setCell ⟨g, q, none⟩ (.int .i32 vt)) from fun k => (((HE.out.drewN k).set (p := g) rfl _).set (p := g) rfl _))
            clear HR HE HV HRk
            go_region
            all_goals
              clear hrf xt xq
              go_wp2
              go_roundw
              case rel => exact ⟨q, D2, by go_num, by have := HT.out; omega, HS2, HH2, HR2.out _, HE2.out _⟩
              case measure => (have := HT.out; simp [intOf]; try omega)
      · have hsb : decide (((q + 1 : Nat) : Int) < (m : Int)) = false := decide_eq_false (by omega)
        have hbig : ∀ k, (k = 2 * t + 1 ∨ k = 2 * t + 2) → k < m → gt D k ≤ gt D q := fun k hk hkm => by
          rcases hk with z | z
          · rw [show k = q by omega]; exact Int.le_refl _
          · omega
        by_cases hx : gt D q ≤ gt D t
        · have hxb : decide (gt D q ≤ gt D t) = true := decide_eq_true hx
          have HF : Hid (Heap D r m) := HH.out.stop (fun k hk hkm => Int.le_trans (hbig k hk hkm) hx)
          have HP2 := hide (fun nq nq2 => show SdPost w B g n c r m C (.returned (.tuple #[])) ((wr.drewN nq).drewN nq2) from ⟨rfl, D, HS.out, HF.out, HR.out.keep (((Ex.refl (fun _ => False) wr).drewN nq).drewN nq2) (fun z => z), (HE.out.drewN nq).drewN nq2⟩)
          clear hbig hx HH HS HR HE HF hDL hq
          generalize gt D (q + 1) = vs at *
          generalize gt D q = vq at *
          generalize gt D t = vt at *
          generalize hq1 : q + 1 = q' at *
          clear hq1
          go_upto_region 2 with fail
          go_quiet (fail)
          rename_i nq
          go_upto_region 4 with fail
          go_quiet (fail)
          rename_i nq2
          go_wp2_with (first | with_reducible refine bodyPost_ret (v := .tuple #[]) ?hr ?hd ?hp | with_reducible refine bodyPost_nrm (v := .tuple #[]) ?hr ?hd ?hp)
          case hr => exact results_nil Tryz.results159
          case hd => rfl
          case hp => exact HP2.out _ _
        · have hxb : decide (gt D q ≤ gt D t) = false := decide_eq_false hx
          have HH2 : Hid (Hole (swL D t q) r m q) := HH.out.step (by omega) (by omega) (by omega) hbig (by omega)
          have HS2 : Hid (Sft C (swL D t q) m) := HS.out.step (by omega) (by omega) (by omega)
          have htc : t < q := by omega
          have HT : Hid (t < q ∧ q < m) := ⟨by omega, by omega⟩
          clear hbig hx HH HS hDL hq
          have HV : Hid (swL D t q = (D.set t (gt D q)).set q (gt D t)) := rfl
          generalize swL D t q = D2 at *
          have HRk := HR
          generalize gt D (q + 1) = vs at *
          generalize gt D q = vq at *
          generalize gt D t = vt at *
          generalize hq1 : q + 1 = q' at *
          clear hq1
          go_upto_region 2 with fail
          go_quiet (fail)
          rename_i nq
          go_upto_region 4 with fail
          go_quiet (fail)
          rename_i nq2
          go_upto_region 5 with fail
          have HR2 := hide (show ∀ k, RW (((wr.drewN k).setCell ⟨g, t, none⟩ (.int .i32 vq)).setCell ⟨g, q, none⟩ (.int .i32 vt)) B g n c D2 from fun k => by
            have z := ((HR.out.keep ((Ex.refl (fun _ => False) wr).drewN k) (fun z => z)).put t vq).put q vt
            rw [← HV.out] at z
            exact z)
          have HE2 := hide (show ∀ k, Ex (fun k => k = g) w (((wr.drewN k).setCell ⟨g, t, none⟩ (.int .i32 vq)).setCell ⟨g, q, none⟩ (.int .i32 vt)) from fun k => (((HE.out.drewN k).set (p := g) rfl _).set (p := g) rfl _))
          clear HR HE HV HRk
          go_region
          all_goals
            clear hrf xt xq
            go_wp2
            go_roundw
            case rel => exact ⟨q, D2, by go_num, by have := HT.out; omega, HS2, HH2, HR2.out _, HE2.out _⟩
            case measure => (have := HT.out; simp [intOf]; try omega)
    · have hqb : decide ((m : Int) ≤ (q : Int)) = true := decide_eq_true (by omega)
      have HF : Hid (Heap D r m) := HH.out.stop (fun k hk hkm => by omega)
      have HP2 : Hid (SdPost w B g n c r m C (.returned (.tuple #[])) wr) := ⟨rfl, D, HS.out, HF.out, HR.out, HE.out⟩
      clear HH HS HR HE HF hDL hq
      go_wp2_with (first | with_reducible refine bodyPost_ret (v := .tuple #[]) ?hr ?hd ?hp | with_reducible refine bodyPost_nrm (v := .tuple #[]) ?hr ?hd ?hp)
      case hr => exact results_nil Tryz.results159
      case hd => rfl
      case hp => exact HP2.out
end Go.Proofs.Qxb6500773aGreat
