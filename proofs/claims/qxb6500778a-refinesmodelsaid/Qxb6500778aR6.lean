import Derived.Test.Qxb6500778aR2
import Derived.Test.Qxb6500778aR3
import Derived.Test.Qxb6500778aR4
import Derived.Test.Qxb6500778aR5
namespace Go.Proofs.Qxb6500778a
open Go.RowKit

/-- configm.WellFormed -/
theorem wellFormed_any (w : World) (c : Chg) : Calls Try.prog 80 #[chV c] w fun e w' => e = .returned (.bool (wfB c)) ∧ Ex (fun _ => False) w w' := by
  obtain ⟨kd, dv, hp, pr, ln, ix, cl, pm, up⟩ := c
  unfold chV
  simp only []
  by_cases h : kd < 0 ∨ 5 < kd
  · exact wf_6 w kd h dv hp pr ln ix cl pm up
  · rcases (by omega : kd = 0 ∨ kd = 1 ∨ kd = 2 ∨ kd = 3 ∨ kd = 4 ∨ kd = 5) with e | e | e | e | e | e <;> subst e
    · exact wf_0 w dv hp pr ln ix cl pm up
    · exact wf_1 w dv hp pr ln ix cl pm up
    · exact wf_2 w dv hp pr ln ix cl pm up
    · exact wf_3 w dv hp pr ln ix cl pm up
    · exact wf_4 w dv hp pr ln ix cl pm up
    · exact wf_5 w dv hp pr ln ix cl pm up
set_option linter.unusedSimpArgs false in
set_option maxRecDepth 100000 in
set_option maxHeartbeats 8000000 in
/-- configm.Check -/
theorem checkM_any (w : World) (B : Nat) (id : Int) (v : Value) (C : List Chg) (ho : w.ownsRow B 45 9 v C.length (flatC C)) (hlen : C.length ≤ 1099511627776) :
    Calls Try.prog 69 #[.agg #[.int .i64 id, v]] w fun e w' => e = .returned (.tuple #[.int .i64 (checkP id C).1, .int .i64 (checkP id C).2]) ∧ Ex (fun _ => False) w w' := by
  obtain ⟨sa, sc, rfl⟩ := own_len ho
  have HO := hide (ho.alloc (.cells #[.int .i64 id, .slice sa C.length sc] 52))
  have HE : Hid (Ex (fun _ => False) w (w.alloc (.cells #[.int .i64 id, .slice sa C.length sc] 52))) := (Ex.refl _ w).alloc _
  have nc := fun j u h => new_cells w [.int .i64 id, .slice sa C.length sc] 52 j u h
  have c0 := nc 0 _ rfl
  have c1 := nc 1 _ rfl
  simp only [Addr.add_mid, Nat.zero_add] at c0 c1
  clear nc ho
  have HK : Hid (checkP id C = if id < 0 then ((5 : Int), (-1 : Int)) else if 999999 < id then (5, -1) else if 128 < C.length then (4, -1) else match badAt C 0 with | some i => (5, (i : Int)) | none => (0, 0)) := rfl
  obtain ⟨n, hn⟩ : ∃ n, C.length = n := ⟨_, rfl⟩
  rw [hn] at HO HE c0 c1 HK hlen ⊢
  have HNL := hide hn
  clear hn
  go_enter Try.func69, Try.ntmps69
  go_upto_region 1 with fail
  generalize w.alloc (.cells #[.int .i64 id, .slice sa n sc] 52) = W at *
  obtain ⟨r, hr⟩ : ∃ r, w.heap.size = r := ⟨_, rfl⟩
  rw [hr] at c0 c1 ⊢
  clear hr
  by_cases h0 : id < 0
  · have d0 : decide (id < 0) = true := decide_eq_true h0
    rw [if_pos h0] at HK
    go_wp2
    exact bodyPost_ret (v := .tuple #[.int .i64 5, .int .i64 (-1)]) (by simp [results, Try.results69, go_sem]) rfl ⟨by rw [HK.out], HE.out⟩
  · have d0 : decide (id < 0) = false := decide_eq_false h0
    rw [if_neg h0] at HK
    by_cases h1 : 999999 < id
    · have d1 : decide (999999 < id) = true := decide_eq_true h1
      rw [if_pos h1] at HK
      go_wp2
      exact bodyPost_ret (v := .tuple #[.int .i64 5, .int .i64 (-1)]) (by simp [results, Try.results69, go_sem]) rfl ⟨by rw [HK.out], HE.out⟩
    · have d1 : decide (999999 < id) = false := decide_eq_false h1
      rw [if_neg h1] at HK
      by_cases h2 : 128 < n
      · have d2 : decide ((128 : Int) < (n : Int)) = true := decide_eq_true (by omega)
        rw [if_pos h2] at HK
        go_wp2
        exact bodyPost_ret (v := .tuple #[.int .i64 4, .int .i64 (-1)]) (by simp [results, Try.results69, go_sem]) rfl ⟨by rw [HK.out], HE.out⟩
      · have d2 : decide ((128 : Int) < (n : Int)) = false := decide_eq_false (by omega)
        rw [if_neg h2] at HK
        go_upto_region 5 with fail
        clear d0 d1 d2 h0 h1
        have HC1 := hide c1
        clear c0 c1
        go_wp2_with fail
        go_loopw [4] (fun s4 wr => ∃ (i : Nat), s4 = .int .i64 i ∧ i ≤ n ∧ Hid (badAt C 0 = badAt (C.drop i) i) ∧ Hid (Ex (fun _ => False) W wr)) (fun s4 _ => n - (intOf s4).toNat)
        case atStart => exact ⟨0, rfl, Nat.zero_le _, rfl, Ex.refl _ _⟩
        case round =>
          obtain ⟨i, rfl, hin, HB, HX⟩ := hrel
          have c1 := HX.out.cell (fun e => e) HC1.out
          by_cases hi : i < n
          · have hib : decide ((i : Int) < (n : Int)) = true := decide_eq_true (by omega)
            have hii : (i : Int) < (n : Int) := by omega
            have o1 := own_kept HO.out HX.out (fun _ _ e => e)
            obtain ⟨x, hx⟩ : ∃ x, C[i]? = some x := ⟨_, List.getElem?_eq_getElem (by rw [HNL.out]; exact hi)⟩
            obtain ⟨g, cc, hv⟩ := own_some o1 (by omega)
            injection hv with hv1 hv2 hv3
            subst hv1
            rw [← HNL.out] at o1
            obtain ⟨x0, x1, x2, x3, x4, x5, x6, x7, x8⟩ := co_of o1 rfl hx
            rw [bad_drop hx] at HB
            have HWF := hide (wellFormed_any wr x)
            have hgd := wf_good x
            obtain ⟨ykd, ydv, yhp, ypr, yln, yix, ycl, ypm, yup⟩ := x
            simp only [] at x0 x1 x2 x3 x4 x5 x6 x7 x8
            obtain ⟨bw, hbw⟩ : ∃ b, wfB ⟨ykd, ydv, yhp, ypr, yln, yix, ycl, ypm, yup⟩ = b := ⟨_, rfl⟩
            rw [hbw] at HWF hgd
            unfold chV at HWF
            simp only [] at HWF
            clear o1 hx hv2 hv3 hbw
            have HGD := hide hgd
            clear hgd
            cases bw
            · rw [if_neg (fun hg => by have := HGD.out.2 hg; cases this)] at HB
              go_wp2_with fail
              refine HWF.out.mono ?_
              rintro e w5 ⟨rfl, hex5⟩
              have HX5 := hide (HE.out.trans (HX.out.trans hex5))
              clear hex5
              go_wp2
              exact bodyPost_ret (v := .tuple #[.int .i64 5, .int .i64 (i : Int)]) (by simp [results, Try.results69, go_sem]) rfl ⟨by rw [HK.out, HB.out], HX5.out⟩
            · rw [if_pos (HGD.out.1 rfl)] at HB
              go_wp2_with fail
              refine HWF.out.mono ?_
              rintro e w5 ⟨rfl, hex5⟩
              have HX5 := hide (HX.out.trans hex5)
              clear hex5 c1 x0 x1 x2 x3 x4 x5 x6 x7 x8
              go_wp2
              go_roundw
              case rel => exact ⟨i + 1, by go_num, by omega, HB, HX5⟩
              case measure => simp [intOf]; omega
          · obtain rfl : i = n := by omega
            have hib : decide ((i : Int) < (i : Int)) = false := decide_eq_false (by omega)
            have HR : Hid (badAt C 0 = none) := by
              have h1 := HB.out
              rw [List.drop_of_length_le (by rw [HNL.out]; exact Nat.le_refl _)] at h1
              exact h1
            go_wp2
            exact bodyPost_ret (v := .tuple #[.int .i64 0, .int .i64 0]) (by simp [results, Try.results69, go_sem]) rfl ⟨by rw [HK.out, HR.out], HE.out.trans HX.out⟩
end Go.Proofs.Qxb6500778a
