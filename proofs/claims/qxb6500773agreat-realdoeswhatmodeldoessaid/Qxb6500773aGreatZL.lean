import Derived.Test.Qxb6500773aGreatZI
import Derived.Test.Qxb6500773aGreatZA
import Derived.Test.Qxb6500773aGreatLo1
import Derived.Test.Qxb6500773aGreatZD
namespace Go.Proofs.Qxb6500773aGreat
open Go.RowKit

/-! ### Normalize -/
def nmS (s : List Int × Bool) (l : Int) : List Int × Bool :=
  if s.1.getLast? = some l then s else (s.1 ++ [l], s.2 || decide (s.1.getLast? = some (notP l)))
def nmP (D : List Int) : List Int × Bool := D.foldl nmS ([], false)
theorem nmP_succ {D : List Int} {i : Nat} {l : Int} (h : D[i]? = some l) : nmP (D.take (i + 1)) = nmS (nmP (D.take i)) l := by
  unfold nmP
  rw [List.take_add_one, h]
  simp [List.foldl_append]
theorem nmS_len (s : List Int × Bool) (l : Int) : (nmS s l).1.length ≤ s.1.length + 1 := by
  unfold nmS
  split <;> simp
theorem nmP_len (D : List Int) : ∀ i, (nmP (D.take i)).1.length ≤ i
  | 0 => by simp [nmP]
  | i + 1 => by
    have ih := nmP_len D i
    cases h : D[i]? with
    | none =>
      have : D.take (i + 1) = D.take i := by rw [List.take_add_one, h]; simp
      rw [this]; omega
    | some l =>
      rw [nmP_succ h]
      have := nmS_len (nmP (D.take i)) l
      omega
theorem last_gt {N M : List Int} (h : M.take N.length = N) (h0 : 0 < N.length) : N.getLast? = some (gt M (N.length - 1)) := by
  rw [List.getLast?_eq_getElem?, ← h]
  rw [List.getElem?_take_of_lt (by rw [h]; omega), h]
  refine gt_at ?_
  have := congrArg List.length h
  rw [List.length_take] at this
  omega
theorem take_put {N M : List Int} {l : Int} (h : M.take N.length = N) (hl : N.length < M.length) : (M.set N.length l).take (N.length + 1) = N ++ [l] := by
  rw [List.take_add_one, List.take_set_of_le (Nat.le_refl _), h, List.getElem?_set, if_pos rfl, if_pos hl]
  rfl
theorem drop_put {M D : List Int} {i k : Nat} {l : Int} (h : M.drop i = D.drop i) (hk : k ≤ i) : (M.set k l).drop (i + 1) = D.drop (i + 1) := by
  rw [List.drop_set_of_lt (by omega)]
  have := congrArg (List.drop 1) h
  rw [List.drop_drop, List.drop_drop] at this
  exact this
theorem drop_one {M D : List Int} {i : Nat} (h : M.drop i = D.drop i) : M.drop (i + 1) = D.drop (i + 1) := by
  have := congrArg (List.drop 1) h
  rw [List.drop_drop, List.drop_drop] at this
  exact this
theorem drop_gt {M D : List Int} {i : Nat} (h : M.drop i = D.drop i) : gt M i = gt D i := by
  have := congrArg (fun x => x[0]?) h
  simp only [List.getElem?_drop, Nat.add_zero] at this
  unfold gt
  rw [List.getD_eq_getElem?_getD, List.getD_eq_getElem?_getD, this]
def NmPost (w : World) (B g n c : Nat) (C : List Int) (e : Ending) (w' : World) : Prop :=
  ∃ D, D.Perm C ∧ Srt D ∧ e = .returned (.tuple #[.slice (some ⟨g, 0, none⟩) (nmP D).1.length c, .bool (nmP D).2]) ∧ (∃ M, RW w' B g n c M ∧ M.take (nmP D).1.length = (nmP D).1) ∧ Ex (fun k => k = g) w w'
set_option linter.unusedSimpArgs false in
set_option maxRecDepth 100000 in
set_option maxHeartbeats 8000000 in
/-- cnf.Clause.Normalize -/
theorem normalize_any (w : World) (B g n c : Nat) (C : List Int) (h : RW w B g n c C) (hC : ∀ x ∈ C, LitOk x) (hl : n ≤ 1000000000) :
    Calls Tryz.prog 16 #[.slice (some ⟨g, 0, none⟩) n c] w (NmPost w B g n c C) := by
  have cs := hide (sort_any w B g n c C h hl)
  have HC := hide hC
  have HNC := hide (own_capZ h.row)
  clear h hC
  go_enter Tryz.func16, Tryz.ntmps16
  go_wp2_with fail
  refine cs.out.mono ?_
  rintro e w1 ⟨rfl, D, hp, hs, hr, hx⟩
  have HPm := hide hp
  have HSr := hide hs
  have HR0 := hide hr
  have HX0 := hide hx
  have HLt : Hid (∀ x ∈ D, LitOk x) := fun x hx => HC.out x (hp.subset hx)
  have HDL : Hid (D.length = n) := hr.len
  clear hp hs hr hx cs HC
  go_wp2_with fail
  go_loopw [4, 5, 7, 12] (fun s4 s5 _ s12 wr => ∃ (i k : Nat) (b : Bool) (M : List Int), s12 = .int .i64 i ∧ s5 = .int .i64 k ∧ s4 = .bool b ∧ i ≤ n ∧ k ≤ i ∧ Hid ((nmP (D.take i)).1.length = k) ∧ Hid ((nmP (D.take i)).2 = b) ∧ Hid (M.take k = (nmP (D.take i)).1) ∧ Hid (M.drop i = D.drop i) ∧ Hid (RW wr B g n c M) ∧ Hid (Ex (fun k => k = g) w wr)) (fun _ _ _ s12 _ => n - (intOf s12).toNat)
  case atStart => exact ⟨0, 0, false, D, rfl, rfl, rfl, Nat.zero_le _, Nat.le_refl _, rfl, rfl, rfl, rfl, HR0, HX0⟩
  case round =>
    clear HR0 HX0
    obtain ⟨i, k, b, M, rfl, rfl, rfl, hi, hk, HK, HB, HT, HD, HR, HE⟩ := hrel
    have hw1 : wrap64 ((i : Int) + 1) = ((i + 1 : Nat) : Int) := by unfold wrap64; omega
    have hw2 : wrap64 ((k : Int) + 1) = ((k + 1 : Nat) : Int) := by unfold wrap64; omega
    by_cases hlt : i < n
    · have hib : decide ((i : Int) < (n : Int)) = true := decide_eq_true (by omega)
      have hii : (i : Int) < (n : Int) := by omega
      have hki : (k : Int) < (n : Int) := by omega
      have hML := HR.out.len
      have xk := HR.out.cell (i := k) (by omega)
      have hDi : D[i]? = some (gt D i) := gt_at (by rw [HDL.out]; exact hlt)
      have x0 := HR.out.cell hlt
      rw [drop_gt HD.out] at x0
      have hlo := HLt.out _ (List.mem_of_getElem? hDi)
      have HNS := hide (nmP_succ hDi)
      have HNN := hide (hlo)
      unfold LitOk at hlo
      have hnt := fun w => hide (not_any w (gt D i) (by omega))
      generalize gt D i = l at *
      generalize gt M k = vk at *
      clear hDi
      have hrf := HR.out.fz
      have HR2 : Hid (∀ q, RW ((wr.drewN q).setCell ⟨g, k, none⟩ (.int .i32 l)) B g n c (M.set k l)) := fun q => (HR.out.keep ((Ex.refl (fun _ => False) _).drewN q) (fun z => z)).put k l
      have HE2 : Hid (∀ q, Ex (fun k => k = g) w ((wr.drewN q).setCell ⟨g, k, none⟩ (.int .i32 l))) := fun q => (HE.out.drewN q).set (p := g) (j := k) rfl (.int .i32 l)
      have HT2 : Hid ((M.set k l).take (k + 1) = (nmP (D.take i)).1 ++ [l]) := by
        show _ = _
        have e : M.take (nmP (D.take i)).1.length = (nmP (D.take i)).1 := by rw [HK.out]; exact HT.out
        have := take_put (l := l) e (by rw [HK.out]; omega)
        rw [HK.out] at this
        exact this
      have HD2 : Hid ((M.set k l).drop (i + 1) = D.drop (i + 1)) := drop_put HD.out hk
      have HD3 : Hid (M.drop (i + 1) = D.drop (i + 1)) := drop_one HD.out
      by_cases hk0 : k = 0
      · subst hk0
        have hN : (nmP (D.take i)).1 = [] := List.length_eq_zero_iff.1 HK.out
        have HQ : Hid (nmP (D.take (i + 1)) = ([l], b)) := by
          show _ = _
          rw [HNS.out]
          unfold nmS
          rw [hN, HB.out]
          simp
        rw [hN] at HT2
        rw [show ((0 : Nat) : Int) = 0 from rfl]
        clear hN HNS HB HT HD HK HD3 HR HE hML hnt
        generalize M.set 0 l = M2 at *
        go_upto_region 8 with fail
        go_quiet (fail)
        rename_i nq
        go_wp2
        go_roundw
        case rel => exact ⟨i + 1, 1, b, M2, by go_num, rfl, rfl, by omega, by omega, (by show _ = _; rw [HQ.out]; rfl), (by show _ = _; rw [HQ.out]), (by show _ = _; rw [HQ.out]; exact HT2.out), HD2, HR2.out nq, HE2.out nq⟩
        case measure => (simp [intOf]; try omega)
      · obtain ⟨j, rfl⟩ : ∃ j, k = j + 1 := ⟨k - 1, by omega⟩
        have hw3 : wrap64 (((j + 1 : Nat) : Int) - 1) = (j : Int) := by unfold wrap64; omega
        have hw4 : IntKind.i64.wrap (((j + 1 : Nat) : Int) - 1) = (j : Int) := by rw [IntKind.wrap_i64]; omega
        have hkb : decide ((0 : Int) < ((j + 1 : Nat) : Int)) = true := decide_eq_true (by omega)
        have hji : (j : Int) < (n : Int) := by omega
        have x1 := HR.out.cell (i := j) (by omega)
        have hlast : (nmP (D.take i)).1.getLast? = some (gt M j) := by
          have := last_gt (M := M) (N := (nmP (D.take i)).1) (by rw [HK.out]; exact HT.out) (by rw [HK.out]; omega)
          rw [HK.out] at this
          exact this
        obtain ⟨k', hk'⟩ : ∃ k', j + 1 = k' := ⟨_, rfl⟩
        rw [hk'] at HK HT HT2 HR2 HE2 hki hw2 hkb hw3 hw4 hk HD2 xk ⊢
        have hkn : decide (0 < k') = true := decide_eq_true (by omega)
        have hkm : 0 < k' := by omega
        generalize gt M j = v at *
        by_cases hv : v = l
        · have hvb : (v == l) = true := by simp [hv]
          have HQ : Hid (nmP (D.take (i + 1)) = nmP (D.take i)) := by
            show _ = _
            rw [HNS.out]
            unfold nmS
            rw [if_pos (by rw [hlast, hv])]
          clear hv hlast HNS HR2 HE2 HT2 HD2 HD hnt hk' hk0 HNN hlo
          go_wp2
          go_roundw
          case rel => exact ⟨i + 1, k', b, M, by go_num, rfl, rfl, by omega, by omega, (by show _ = _; rw [HQ.out]; exact HK.out), (by show _ = _; rw [HQ.out]; exact HB.out), (by show _ = _; rw [HQ.out]; exact HT.out), HD3, HR, HE⟩
          case measure => (simp [intOf]; try omega)
        · have hvb : (v == l) = false := by simp [hv]
          by_cases hv2 : v = notP l
          · have hvc : (v == notP l) = true := by simp [hv2]
            have HQ : Hid (nmP (D.take (i + 1)) = ((nmP (D.take i)).1 ++ [l], true)) := by
              show _ = _
              rw [HNS.out]
              unfold nmS
              rw [if_neg (by rw [hlast]; intro z; injection z with z; exact hv z), hlast, hv2]
              simp
            generalize notP l = nl at *
            clear hv hv2 hlast HNS HT HD hk' hk0 HD3 HR HE hML HNN hlo
            generalize M.set k' l = M2 at *
            go_upto_region 8 with fail
            go_quiet (first | (go_at_call 20; refine Calls.quiet_of_same (hnt _).out))
            rename_i nq
            go_wp2
            go_roundw
            case rel => exact ⟨i + 1, k' + 1, true, M2, by go_num, by go_num, rfl, by omega, by omega, (by show _ = _; rw [HQ.out]; rw [List.length_append, HK.out]; rfl), (by show _ = _; rw [HQ.out]), (by show _ = _; rw [HQ.out]; exact HT2.out), HD2, HR2.out nq, HE2.out nq⟩
            case measure => (simp [intOf]; try omega)
          · have hvc : (v == notP l) = false := by simp [hv2]
            have HQ : Hid (nmP (D.take (i + 1)) = ((nmP (D.take i)).1 ++ [l], b)) := by
              show _ = _
              rw [HNS.out]
              unfold nmS
              rw [if_neg (by rw [hlast]; intro z; injection z with z; exact hv z), hlast, HB.out]
              simp [hv2]
            generalize notP l = nl at *
            clear hv hv2 hlast HNS HT HD hk' hk0 HD3 HR HE hML HNN hlo
            generalize M.set k' l = M2 at *
            go_upto_region 8 with fail
            go_quiet (first | (go_at_call 20; refine Calls.quiet_of_same (hnt _).out))
            rename_i nq
            go_wp2
            go_roundw
            case rel => exact ⟨i + 1, k' + 1, b, M2, by go_num, by go_num, rfl, by omega, by omega, (by show _ = _; rw [HQ.out]; rw [List.length_append, HK.out]; rfl), (by show _ = _; rw [HQ.out]), (by show _ = _; rw [HQ.out]; exact HT2.out), HD2, HR2.out nq, HE2.out nq⟩
            case measure => (simp [intOf]; try omega)
    · have hib : decide ((i : Int) < (n : Int)) = false := decide_eq_false (by omega)
      have e : D.take i = D := List.take_of_length_le (by rw [HDL.out]; omega)
      rw [e] at HK HB HT
      have HP : Hid (∀ c', c' = c → NmPost w B g n c C (.returned (.tuple #[.slice (some ⟨g, 0, none⟩) k c', .bool b])) wr) := fun c' hc' => ⟨D, HPm.out, HSr.out, by rw [HK.out, HB.out, hc'], ⟨M, HR.out, by rw [HK.out]; exact HT.out⟩, HE.out⟩
      have hkc : k ≤ c := by have := HNC.out; omega
      clear HK HB HT HD HR HE e HPm HSr HDL
      go_wp2
      all_goals exact bodyPost_ret (v := .tuple #[.slice (some ⟨g, 0, none⟩) k c, .bool b]) (by simp [results, Tryz.results16, go_sem]) rfl (HP.out _ rfl)
end Go.Proofs.Qxb6500773aGreat
