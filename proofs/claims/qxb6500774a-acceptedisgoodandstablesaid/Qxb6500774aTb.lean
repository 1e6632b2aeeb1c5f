import Derived.Test.Qxb6500774aTa
import Derived.Test.Qxb6500774aUh
namespace Go.Proofs.Qxb6500774a
open Go.RowKit
set_option linter.unusedVariables false
set_option linter.unusedSimpArgs false

set_option linter.unusedSimpArgs false in
set_option linter.unusedVariables false in
set_option maxRecDepth 100000 in
set_option maxHeartbeats 32000000 in
theorem text_any (w : World) (b : Nat) (X : List Int) (i : Int) (x : ByteArray) (h : PR w b X i) (hl : X.length + (strL x).length ≤ 1099511627776) :
    Calls Try.prog 29 #[.pointer (some ⟨b, 0, none⟩), .string x] w (PRPost w b (X ++ strL x) i) := by
  obtain ⟨i0, hi, hz0, hz1, hz2⟩ := inf_parts Try.inf5
  have HI := hide (And.intro hi (And.intro hz0 (And.intro hz1 hz2)))
  have hsz := strL_len x
  have HL := hide hl
  have HP := hide h
  clear hl h hi hz0 hz1 hz2
  go_enter Try.func29, Try.ntmps29
  go_wp2_with fail
  go_loopw [4] (fun v4 wr => ∃ (k : Nat), v4 = .int .i64 k ∧ k ≤ (strL x).length ∧ PR wr b (X ++ (strL x).take k) i ∧ PGo b w wr) (fun v4 _ => (strL x).length - (intOf v4).toNat)
  case atStart => exact ⟨0, rfl, Nat.zero_le _, by rw [List.take_zero, List.append_nil]; exact HP.out, PGo.refl _ _⟩
  case round =>
    obtain ⟨k, rfl, hk, hpr, hpg⟩ := hrel
    have HX := hide hpr
    have HG := hide hpg
    clear hpr hpg HP
    by_cases hlt : k < (strL x).length
    · have d1 : decide ((k : Int) < (x.size : Int)) = true := decide_eq_true (by omega)
      have d1n : decide (k < x.size) = true := decide_eq_true (by omega)
      obtain ⟨c, hc⟩ : ∃ c, (strL x)[k]? = some c := ⟨_, List.getElem?_eq_getElem hlt⟩
      obtain ⟨hks, hkc⟩ := str_at x k c hc
      have hw1 : IntKind.i64.wrap ((k : Int) + 1) = ((k + 1 : Nat) : Int) := by rw [IntKind.wrap_i64]; have := HL.out; omega
      have HTK : Hid (X ++ (strL x).take (k + 1) = (X ++ (strL x).take k) ++ [c]) := by
        show _ = _
        rw [List.take_add_one, hc, List.append_assoc]
        rfl
      have HLX0 : Hid ((X ++ (strL x).take k).length + 1 ≤ 1099511627777) := by
        have := HL.out
        show _ ≤ _
        rw [List.length_append, List.length_take]
        omega
      clear hc
      generalize X ++ (strL x).take k = Y at *
      obtain ⟨v, hv, ho⟩ := HX.out.ex
      obtain ⟨va, vc, rfl⟩ := own_len ho
      obtain ⟨m, hm⟩ : ∃ m, Y.length = m := ⟨_, rfl⟩
      rw [hm] at hv HLX0
      have HLX : Hid (m + 1 ≤ 1099511627777) := HLX0.out
      have HM := hide hm
      have HC0 : Hid (wr.drew.cell? ⟨b, 0, none⟩ = some (.slice va m vc)) := (Ex.refl (fun _ => False) wr).drew.cell (fun z => z) hv
      clear hv ho hm HLX0
      go_upto_region 3 with fail
      have HXd : Hid (PR wr.drew b Y i) := (HX.out.low ((Ex.refl (fun _ => False) wr).drew)).1
      have HGd : Hid (PGo b w wr.drew) := HG.out.trans (HX.out.low ((Ex.refl (fun _ => False) wr).drew)).2
      clear HX HG
      refine wp_region_until (fun w6 => w6.cell? ⟨b, 0, none⟩ = some (.slice va m vc) ∧ w6.frozen? ⟨b, 0, none⟩ = false) 12 (by kernel_rfl) (⟨HC0.out, HXd.out.fz 0⟩) (fun hHeld => ?_)
      generalize wr.drew = wd at *
      refine wpAnyU_take (i := 0) (v := ?_) [12] rfl (by kernel_rfl) (by kernel_rfl) (by kernel_rfl) (by kernel_rfl) (fun _ _ _ h => h) (Or.inl ⟨by rfl, ?_⟩) (by assumption) ?_
      rotate_left
      · (intro w hSw; (try dsimp only at hSw); (skip); go_simp; try (with_reducible rfl))
      try simp only [Act.put, List.getElem_toArray, List.getElem_cons_zero, List.getElem_cons_succ, List.setIfInBounds_toArray, List.set_cons_zero, List.set_cons_succ]
      refine wpAnyU_take (i := 1) (v := ?_) [12] rfl (by kernel_rfl) (by kernel_rfl) (by kernel_rfl) (by kernel_rfl) (fun _ _ _ h => h) (Or.inl ⟨by rfl, ?_⟩) (by assumption) ?_
      rotate_left
      · (intro w hSw; (try dsimp only at hSw); (skip); go_simp; try (with_reducible rfl))
      try simp only [Act.put, List.getElem_toArray, List.getElem_cons_zero, List.getElem_cons_succ, List.setIfInBounds_toArray, List.set_cons_zero, List.set_cons_succ]
      refine wpAnyU_take (i := 2) (v := ?_) [12] rfl (by kernel_rfl) (by kernel_rfl) (by kernel_rfl) (by kernel_rfl) (fun _ _ _ h => h) (Or.inl ⟨by rfl, ?_⟩) (by assumption) ?_
      rotate_left
      · (intro w hSw; (try dsimp only at hSw); (skip); go_simp; try (with_reducible rfl))
      try simp only [Act.put, List.getElem_toArray, List.getElem_cons_zero, List.getElem_cons_succ, List.setIfInBounds_toArray, List.set_cons_zero, List.set_cons_succ]
      refine wpAnyU_take (i := 3) (v := ?_) [12] rfl (by kernel_rfl) (by kernel_rfl) (by kernel_rfl) (by kernel_rfl) (fun _ _ _ h => h) (Or.inl ⟨by rfl, ?_⟩) (by assumption) ?_
      rotate_left
      · (intro w hSw; (try dsimp only at hSw); (skip); go_simp; try (with_reducible rfl))
      try simp only [Act.put, List.getElem_toArray, List.getElem_cons_zero, List.getElem_cons_succ, List.setIfInBounds_toArray, List.set_cons_zero, List.set_cons_succ]
      refine wpAnyU_take (i := 4) (v := ?_) [12] rfl (by kernel_rfl) (by kernel_rfl) (by kernel_rfl) (by kernel_rfl) (fun _ _ _ h => h) (Or.inl ⟨by rfl, ?_⟩) (by assumption) ?_
      rotate_left
      · (intro w hSw; (try dsimp only at hSw); (have z0 := hSw.1); go_simp; try (with_reducible rfl))
      try simp only [Act.put, List.getElem_toArray, List.getElem_cons_zero, List.getElem_cons_succ, List.setIfInBounds_toArray, List.set_cons_zero, List.set_cons_succ]
      refine wpAnyU_take (i := 5) (v := ?_) [12] rfl (by kernel_rfl) (by kernel_rfl) (by kernel_rfl) (by kernel_rfl) (fun _ _ _ h => h) (Or.inl ⟨by rfl, ?_⟩) (by assumption) ?_
      rotate_left
      · (intro w hSw; (try dsimp only at hSw); (skip); go_simp; try (with_reducible rfl))
      try simp only [Act.put, List.getElem_toArray, List.getElem_cons_zero, List.getElem_cons_succ, List.setIfInBounds_toArray, List.set_cons_zero, List.set_cons_succ]
      refine wpAnyU_take (i := 6) (v := ?_) [12] rfl (by kernel_rfl) (by kernel_rfl) (by kernel_rfl) (by kernel_rfl) (fun _ _ _ h => h) (Or.inl ⟨by rfl, ?_⟩) (by assumption) ?_
      rotate_left
      · (intro w hSw; (try dsimp only at hSw); (skip); go_simp; try (with_reducible rfl))
      try simp only [Act.put, List.getElem_toArray, List.getElem_cons_zero, List.getElem_cons_succ, List.setIfInBounds_toArray, List.set_cons_zero, List.set_cons_succ]
      refine wpAnyU_take (i := 7) (v := ?_) [12] rfl (by kernel_rfl) (by kernel_rfl) (by kernel_rfl) (by kernel_rfl) (fun _ _ _ h => h) (Or.inl ⟨by rfl, ?_⟩) (by assumption) ?_
      rotate_left
      · (intro w hSw; (try dsimp only at hSw); (skip); go_simp; try (with_reducible rfl))
      try simp only [Act.put, List.getElem_toArray, List.getElem_cons_zero, List.getElem_cons_succ, List.setIfInBounds_toArray, List.set_cons_zero, List.set_cons_succ]
      refine wpAnyU_ready (rs := [8]) (by kernel_rfl) (by simp) ?_
      refine (AllReadyU.cons rfl (fun K hK => ?_) AllReadyU.nil)
      · go_simp
        have HXa := hide (HXd.out.low ((Ex.refl (fun _ => False) wd).alloc (.cells #[.int .u8 c] 5)))
        have HNa : Hid (∀ (jq : Nat) (u : Value), [Value.int .u8 c][jq]? = some u → (wd.alloc (.cells #[.int .u8 c] 5)).cell? ((⟨wd.heap.size, 0, none⟩ : Addr).add jq) = some u) := fun jq u hj => new_cells wd [.int .u8 c] 5 jq u hj
        have HCa : Hid ((wd.alloc (.cells #[.int .u8 c] 5)).cell? ⟨b, 0, none⟩ = some (.slice va m vc)) := ((Ex.refl (fun _ => False) wd).alloc (.cells #[.int .u8 c] 5)).cell (fun z => z) HC0.out
        generalize wd.alloc (.cells #[.int .u8 c] 5) = wa at *
        generalize wd.heap.size = g0 at *
        refine hK.out _ _ ?_ (fun hHeld => ?_)
        · exact ⟨HCa.out, HXa.out.1.fz 0⟩
        clear hK K
        try simp only [Act.put, List.getElem_toArray, List.getElem_cons_zero, List.getElem_cons_succ, List.setIfInBounds_toArray, List.set_cons_zero, List.set_cons_succ]
        refine wpAnyU_ready (rs := [9]) (by kernel_rfl) (by simp) ?_
        refine (AllReadyU.cons rfl (fun K hK => ?_) AllReadyU.nil)
        · have HOa : Hid (wa.ownsRow (b + 1) 5 1 (.slice va m vc) m (u8s Y)) := by
            obtain ⟨v2, h1, h2⟩ := HXa.out.1.ex
            rw [HCa.out] at h1
            injection h1 with h1
            rw [← h1, HM.out] at h2
            exact h2
          refine step_append_lies wa rfl (.tmp 15) (.tmp 19) 32 rfl (b + 1) 5 i0 _ 1 1 Try.underlying32 HI.out.1 HI.out.2.1 HI.out.2.2.1 HI.out.2.2.2 rfl (by decide) (.slice va m vc) m (u8s Y) rfl HOa.out ⟨g0, 0, none⟩ 1 1 [.int .u8 c] rfl rfl HNa.out (fun u hu => by simp at hu; subst hu; rfl) (by decide) (by have := HLX.out; unfold maxLen; omega) (by have := HLX.out; omega) (by have := HXa.out.1.lt; omega) _ rfl ?_
          intro gb cb wb hr hgr hat hlt2
          have HFN := hide (HXa.out.1.put (v' := .slice (some ⟨gb, 0, none⟩) (m + 1) cb) (Y := Y ++ [c]) HCa.out (by rw [HM.out]; exact HOa.out) hgr (fun k hk => by
            injection hk with hk
            subst hk
            rcases hat with q | q
            · exact .inl q
            · exact .inr (by rw [q]; exact Nat.le_refl _)) (by rw [List.length_append, HM.out, u8s_app]; exact hr))
          have exb := Ex.ofGrown hgr (S := fun k => (Value.slice va m vc).ownBlock = some k) (fun _ z => z.symm)
          have HNB : Hid (¬ (Value.slice va m vc).ownBlock = some b) := fun z => by have := (HOa.out.lt b z).1; omega
          have Y0 : wb.cell? ⟨b, 0, none⟩ = some (.slice va m vc) := exb.cell HNB.out HCa.out
          have YF : wb.frozen? ⟨b, 0, none⟩ = false := (exb.frozen HNB.out HXa.out.1.lt).trans (HXa.out.1.fz 0)
          have HG2 := hide (HGd.out.trans HXa.out.2)
          clear hr hgr hat hlt2 exb HNB HOa HNa
          refine hK.out _ _ ?_ (fun hHeld => ?_)
          · exact ⟨Y0, YF⟩
          clear hK K
          try simp only [Act.put, List.getElem_toArray, List.getElem_cons_zero, List.getElem_cons_succ, List.setIfInBounds_toArray, List.set_cons_zero, List.set_cons_succ]
          refine wpAnyU_take (i := 10) (v := ?_) [11, 12] rfl (by kernel_rfl) (by kernel_rfl) (by kernel_rfl) (by kernel_rfl) (fun _ _ _ h => h) (Or.inl ⟨by rfl, ?_⟩) (by assumption) ?_
          rotate_left
          · (intro w hSw; (try dsimp only at hSw); (skip); go_simp; try (with_reducible rfl))
          try simp only [Act.put, List.getElem_toArray, List.getElem_cons_zero, List.getElem_cons_succ, List.setIfInBounds_toArray, List.set_cons_zero, List.set_cons_succ]
          refine wpAnyU_take (i := 11) (v := ?_) [12] rfl (by kernel_rfl) (by kernel_rfl) (by kernel_rfl) (by kernel_rfl) (fun _ _ _ h => h) (Or.inl ⟨by rfl, ?_⟩) (by assumption) ?_
          rotate_left
          · (intro w hSw; (try dsimp only at hSw); (skip); go_simp; try (with_reducible rfl))
          try simp only [Act.put, List.getElem_toArray, List.getElem_cons_zero, List.getElem_cons_succ, List.setIfInBounds_toArray, List.set_cons_zero, List.set_cons_succ]
          refine wpAnyU_ready (rs := [12]) (by kernel_rfl) (by simp) ?_
          refine AllReadyU.last rfl (fun K hK => ?_)
          go_simp
          refine hK.out _ _ ?_
          clear hK K
          try simp only [Act.put, List.getElem_toArray, List.getElem_cons_zero, List.getElem_cons_succ, List.setIfInBounds_toArray, List.set_cons_zero, List.set_cons_succ]
          refine wpAnyU_done (by kernel_rfl) ?_ _
          have HPG := hide (HG2.out.trans HFN.out.2)
          rw [← HTK.out] at HFN
          have HPR := hide HFN.out.1
          clear HFN HG2 HXa HCa Y0 YF HXd HGd HC0
          generalize wb.setCell ⟨b, 0, none⟩ (.slice (some ⟨gb, 0, none⟩) (m + 1) cb) = wf at *
          go_wp2
          go_roundw
          case rel => exact ⟨k + 1, by go_num, by omega, HPR.out, HPG.out⟩
          case measure => simp [intOf]; omega
    · obtain rfl : k = (strL x).length := by omega
      have d1 : decide (((strL x).length : Int) < (x.size : Int)) = false := decide_eq_false (by omega)
      have d1n : decide ((strL x).length < x.size) = false := decide_eq_false (by omega)
      rw [List.take_length] at HX
      go_wp2
      exact bodyPost_ret (v := .tuple #[]) (by simp [results, Try.results29]) rfl ⟨rfl, HX.out, HG.out⟩
end Go.Proofs.Qxb6500774a
