import Derived.Test.Qxb6500773aGreatMg
namespace Go.Proofs.Qxb6500773aGreat
open Go.RowKit

def sameP : List (List Int) → List (List Int) → Bool
  | [], [] => true
  | C :: F, D :: G => if cmP C D = 0 then sameP F G else false
  | _, _ => false
def sfP (nv : Int) (F : List (List Int)) (nw : Int) (G : List (List Int)) : Bool := if nv = nw then if F.length = G.length then sameP F G else false else false
set_option linter.unusedSimpArgs false in
set_option maxRecDepth 100000 in
set_option maxHeartbeats 8000000 in
/-- cnfm.SameFormula -/
theorem sameFM_any (w : World) (nv : Int) (af : Option Addr) (cf : Nat) (F : List (List Int)) (nw : Int) (ag : Option Addr) (cg : Nat) (G : List (List Int)) (hF : FL w af F) (hG : FL w ag G) (hl : F.length ≤ 1000000000) (hlG : G.length ≤ 1000000000) (hB : FB F) (hBG : FB G) :
    Calls Tryz.prog 96 #[.agg #[.int .i64 nv, .slice af F.length cf], .agg #[.int .i64 nw, .slice ag G.length cg]] w (ExPost w (.bool (sfP nv F nw G))) := by
  have HR : Hid ((if nv = nw then if F.length = G.length then sameP (F.drop 0) (G.drop 0) else false else false) = sfP nv F nw G) := rfl
  obtain ⟨R, hR⟩ : ∃ R, sfP nv F nw G = R := ⟨_, rfl⟩
  rw [hR] at HR ⊢
  clear hR
  obtain ⟨n, hn⟩ : ∃ n, F.length = n := ⟨_, rfl⟩
  have HN := hide hn
  rw [hn] at hl HR ⊢
  clear hn
  obtain ⟨q, hq⟩ : ∃ q, G.length = q := ⟨_, rfl⟩
  have HQ := hide hq
  rw [hq] at hlG HR ⊢
  clear hq
  have HL := hide hB
  have HLG := hide hBG
  obtain ⟨w0, hw0⟩ : ∃ z, w.alloc (.cells #[.int .i64 nv, .slice af n cf] 29) = z := ⟨_, rfl⟩
  obtain ⟨w1, hw1⟩ : ∃ z, w0.alloc (.cells #[.int .i64 nw, .slice ag q cg] 29) = z := ⟨_, rfl⟩
  have HE0 : Hid (Ex (fun _ => False) w w1) := by show Ex _ _ _; rw [← hw1, ← hw0]; exact ((Ex.refl _ w).alloc _).alloc _
  have HF := hide (hF.keep HE0.out)
  have HG := hide (hG.keep HE0.out)
  have E01 : Ex (fun _ => False) w0 w1 := by rw [← hw1]; exact (Ex.refl _ w0).alloc _
  have hs : w0.heap.size = w.heap.size + 1 := by rw [← hw0]; exact Array.size_push _
  have f0 : w1.cell? ⟨w.heap.size, 0, none⟩ = some (.int .i64 nv) := E01.cell (fun z => z) (by rw [← hw0]; exact new_cells w [.int .i64 nv, .slice af n cf] 29 0 _ rfl)
  have f1 : w1.cell? ⟨w.heap.size, 1, none⟩ = some (.slice af n cf) := E01.cell (fun z => z) (by rw [← hw0]; exact new_cells w [.int .i64 nv, .slice af n cf] 29 1 _ rfl)
  have f2 : w1.cell? ⟨w.heap.size + 1, 0, none⟩ = some (.int .i64 nw) := by rw [← hw1, ← hs]; exact new_cells w0 [.int .i64 nw, .slice ag q cg] 29 0 _ rfl
  have f3 : w1.cell? ⟨w.heap.size + 1, 1, none⟩ = some (.slice ag q cg) := by rw [← hw1, ← hs]; exact new_cells w0 [.int .i64 nw, .slice ag q cg] 29 1 _ rfl
  have HW : Hid ((w.alloc (.cells #[.int .i64 nv, .slice af n cf] 29)).alloc (.cells #[.int .i64 nw, .slice ag q cg] 29) = w1) := by show _ = _; rw [hw0, hw1]
  clear hB hBG hF hG hw0 hw1 hs E01
  by_cases hv : nv = nw
  · have hvb : (nv != nw) = false := by simp [hv]
    rw [if_pos hv] at HR
    clear hv
    by_cases hnq : n = q
    · rw [if_pos hnq] at HR
      subst hnq
      go_enter Tryz.func96, Tryz.ntmps96
      go_upto_region 1 with fail
      rw [HW.out]
      clear HW
      generalize w.heap.size = B0 at *
      go_wp2_with fail
      go_loopw [5, 23] (fun _ s23 wx => ∃ (i : Nat), s23 = .int .i64 i ∧ i ≤ n ∧ Hid (sameP (F.drop i) (G.drop i) = R) ∧ Hid (Ex (fun _ => False) w1 wx)) (fun _ s23 _ => n - (intOf s23).toNat)
      case atStart => exact ⟨0, rfl, Nat.zero_le _, HR, Ex.refl _ _⟩
      case round =>
        clear HR
        obtain ⟨i, rfl, hi, HS, HE⟩ := hrel
        have hw1 : wrap64 ((i : Int) + 1) = ((i + 1 : Nat) : Int) := by unfold wrap64; omega
        by_cases hlt : i < n
        · have hib : decide ((i : Int) < (n : Int)) = true := decide_eq_true (by omega)
          have hii : (i : Int) < (n : Int) := by omega
          obtain ⟨C, hx⟩ : ∃ x, F[i]? = some x := ⟨_, List.getElem?_eq_getElem (by rw [HN.out]; exact hlt)⟩
          obtain ⟨D, hy⟩ : ∃ x, G[i]? = some x := ⟨_, List.getElem?_eq_getElem (by rw [HQ.out]; exact hlt)⟩
          obtain ⟨g1, o1, a1, c1, ea1, x0, hil1, hc1, hm1⟩ := (HF.out.keep HE.out) i C hx
          obtain ⟨g2, o2, a2, c2, ea2, y0, hil2, hc2, hm2⟩ := (HG.out.keep HE.out) i D hy
          subst ea1 ea2
          rw [drop_consG hx, drop_consG hy] at HS
          have HS2 : Hid ((if cmP C D = 0 then sameP (F.drop (i + 1)) (G.drop (i + 1)) else false) = R) := HS.out
          have HCM : Hid (∀ m, Calls Tryz.prog 93 #[.slice a1 C.length c1, .slice a2 D.length c2] (wr.drewN m) (DrPost (wr.drewN m) (.int .i64 (cmP C D)))) := fun m =>
            compareM_any C D (wr.drewN m) a1 c1 a2 c2 (hil1.dr m) (hil2.dr m) hc1 hc2 hm1 hm2 (HL.out C (List.mem_of_getElem? hx)).2 (HLG.out D (List.mem_of_getElem? hy)).2
          have HEm : Hid (∀ m, Ex (fun _ => False) w1 (wr.drewN m)) := fun m => HE.out.drewN m
          have k1 := HE.out.cell (fun z => z) f1
          have k3 := HE.out.cell (fun z => z) f3
          clear hx hy hil1 hil2 hc1 hc2 hm1 hm2 HS f0 f1 f2 f3
          generalize cmP C D = cm at *
          generalize C.length = lc at *
          generalize D.length = ld at *
          by_cases hcm : cm = 0
          · have hcb : (cm != 0) = false := by simp [hcm]
            rw [if_pos hcm] at HS2
            clear hcm
            go_upto_region 6 with fail
            go_quiet (first | (go_at_call 93; exact Calls.quiet_of (HCM.out _)))
            rename Nat => nq
            have HE2 := hide (HEm.out nq)
            generalize wr.drewN nq = w2 at *
            go_wp2
            go_roundw
            case rel => exact ⟨i + 1, by go_num, by omega, HS2, HE2⟩
            case measure => (simp [intOf]; try omega)
          · have hcb : (cm != 0) = true := by simp [hcm]
            rw [if_neg hcm] at HS2
            clear hcm
            go_upto_region 6 with fail
            go_quiet (first | (go_at_call 93; exact Calls.quiet_of (HCM.out _)))
            rename Nat => nq
            have HE2 := hide (HE0.out.trans2 (HEm.out nq) (fun _ z => z.elim))
            generalize wr.drewN nq = w2 at *
            go_wp2
            exact bodyPost_ret (v := .bool false) (by simp [results, Tryz.results96, go_sem]) rfl ⟨by rw [HS2.out], HE2.out⟩
        · have hib : decide ((i : Int) < (n : Int)) = false := decide_eq_false (by omega)
          rw [List.drop_of_length_le (by rw [HN.out]; omega), List.drop_of_length_le (by rw [HQ.out]; omega)] at HS
          have HS2 : Hid (true = R) := HS.out
          clear HS
          have HE2 := hide (HE0.out.trans2 HE.out (fun _ z => z.elim))
          go_wp2
          exact bodyPost_ret (v := .bool true) (by simp [results, Tryz.results96, go_sem]) rfl ⟨by rw [HS2.out], HE2.out⟩
    · rw [if_neg hnq] at HR
      have hnb : ((n : Int) != (q : Int)) = true := by simp; omega
      go_enter Tryz.func96, Tryz.ntmps96
      go_upto_region 1 with fail
      rw [HW.out]
      clear HW
      generalize w.heap.size = B0 at *
      go_wp2
      exact bodyPost_ret (v := .bool false) (by simp [results, Tryz.results96, go_sem]) rfl ⟨by rw [HR.out], HE0.out⟩
  · have hvb : (nv != nw) = true := by simp [hv]
    rw [if_neg hv] at HR
    clear hv
    go_enter Tryz.func96, Tryz.ntmps96
    go_upto_region 1 with fail
    rw [HW.out]
    clear HW
    generalize w.heap.size = B0 at *
    go_wp2
    exact bodyPost_ret (v := .bool false) (by simp [results, Tryz.results96, go_sem]) rfl ⟨by rw [HR.out], HE0.out⟩
end Go.Proofs.Qxb6500773aGreat
