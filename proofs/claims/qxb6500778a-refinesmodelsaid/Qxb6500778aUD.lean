import Derived.Test.Qxb6500778aUC
namespace Go.Proofs.Qxb6500778a
open Go.RowKit

theorem era_step {α : Type} {L : List α} {i : Nat} (a : Nat) {x : α} (h : L[i]? = some x) : (L.take (i + 1)).eraseIdx a = if i = a then (L.take i).eraseIdx a else (L.take i).eraseIdx a ++ [x] := by
  have hi := (List.getElem?_eq_some_iff.1 h).1
  have hl : (L.take i).length = i := by rw [List.length_take]; omega
  rw [List.take_add_one, h]
  simp only [Option.toList_some]
  by_cases hia : i = a
  · subst hia
    have e2 : (L.take i).eraseIdx i = L.take i := List.eraseIdx_of_length_le (by rw [hl]; exact Nat.le_refl _)
    rw [if_pos rfl, List.eraseIdx_append_of_length_le (by rw [hl]; exact Nat.le_refl _), hl, Nat.sub_self, e2]
    simp
  · rw [if_neg hia]
    by_cases hlt : a < i
    · rw [List.eraseIdx_append_of_lt_length (by rw [hl]; exact hlt)]
    · have e2 : (L.take i).eraseIdx a = L.take i := List.eraseIdx_of_length_le (by rw [hl]; omega)
      have e3 : (L.take i ++ [x]).eraseIdx a = L.take i ++ [x] := List.eraseIdx_of_length_le (by rw [List.length_append, hl]; simp; omega)
      rw [e2, e3]
theorem era_end {α : Type} (L : List α) (a n : Nat) (h : L.length = n) : (L.take n).eraseIdx a = L.take a ++ L.drop (a + 1) := by
  rw [List.take_of_length_le (by omega), List.eraseIdx_eq_take_drop_succ]
theorem era_len {α : Type} (L : List α) (a i : Nat) : ((L.take i).eraseIdx a).length ≤ i := by
  have h1 := List.length_eraseIdx_le (L.take i) a
  rw [List.length_take] at h1
  omega
set_option linter.unusedSimpArgs false in
set_option maxRecDepth 100000 in
set_option maxHeartbeats 8000000 in
theorem mch_1bad (w : World) (b : Nat) (M : MN) (vr va : Nat → Value) (h : MX w b M vr va) (d : Nat) (hd : d < 16) (hp pr ln ix cl : Int) (pm up : Bool)
    (h1 : (M.rt d).length ≤ 1000000) (hb : ixR (M.rt d) pr ln 0 < 0) :
    Calls Try.prog 71 #[.pointer (some ⟨b, 0, none⟩), chV ⟨1, d, hp, pr, ln, ix, cl, pm, up⟩] w (CMPost w b vr va 7 M) := by
  have nc := fun j u hh => new_cells w [.int .i64 1, .int .i64 (d : Int), .int .i64 hp, .int .i64 pr, .int .i64 ln, .int .i64 ix, .int .i64 cl, .bool pm, .bool up] 45 j u hh
  have c0 := nc 0 _ rfl
  have c1 := nc 1 _ rfl
  have c3 := nc 3 _ rfl
  have c4 := nc 4 _ rfl
  simp only [Addr.add_mid, Nat.zero_add] at c0 c1 c3 c4
  clear nc
  have HX := hide (h.new ((Ex.refl _ w).alloc (.cells #[.int .i64 1, .int .i64 (d : Int), .int .i64 hp, .int .i64 pr, .int .i64 ln, .int .i64 ix, .int .i64 cl, .bool pm, .bool up] 45)))
  have HE : Hid (Ex (fun _ => False) w (w.alloc (.cells #[.int .i64 1, .int .i64 (d : Int), .int .i64 hp, .int .i64 pr, .int .i64 ln, .int .i64 ix, .int .i64 cl, .bool pm, .bool up] 45))) := (Ex.refl _ w).alloc _
  have HSB : Hid (w.heap.size < (w.alloc (.cells #[.int .i64 1, .int .i64 (d : Int), .int .i64 hp, .int .i64 pr, .int .i64 ln, .int .i64 ix, .int .i64 cl, .bool pm, .bool up] 45)).heap.size) := by show _ < _; simp [go_sem]
  clear h
  have hdi : (d : Int) < 16 := by omega
  unfold chV
  simp only []
  have HRA := hide (routeAt_any _ b 0 M vr va HX.out.ma d hd pr ln h1)
  obtain ⟨at_, hat⟩ : ∃ a, ixR (M.rt d) pr ln 0 = a := ⟨_, rfl⟩
  rw [hat] at HRA hb
  clear hat
  have dz : decide (at_ < 0) = true := decide_eq_true hb
  clear hb
  go_enter Try.func71, Try.ntmps71
  go_upto_region 1 with fail
  generalize w.alloc (.cells #[.int .i64 1, .int .i64 (d : Int), .int .i64 hp, .int .i64 pr, .int .i64 ln, .int .i64 ix, .int .i64 cl, .bool pm, .bool up] 45) = W at *
  go_wp2_with fail
  refine HRA.out.mono ?_
  rintro e w2 ⟨rfl, rfl⟩
  go_wp2
  go_ret
  exact ⟨rfl, HE.out.mono (fun _ z => z.elim), vr, va, HX.out, fun k hk => .inl hk⟩
set_option linter.unusedSimpArgs false in
set_option maxRecDepth 100000 in
set_option maxHeartbeats 8000000 in
theorem mch_1 (w : World) (b : Nat) (M : MN) (vr va : Nat → Value) (h : MX w b M vr va) (d : Nat) (hd : d < 16) (hp pr ln ix cl : Int) (pm up : Bool)
    (h1 : (M.rt d).length ≤ 1000000) (hb : 0 ≤ ixR (M.rt d) pr ln 0) :
    Calls Try.prog 71 #[.pointer (some ⟨b, 0, none⟩), chV ⟨1, d, hp, pr, ln, ix, cl, pm, up⟩] w (CMPost w b vr va 0 { M with rt := upd M.rt d ((M.rt d).take (ixR (M.rt d) pr ln 0).toNat ++ (M.rt d).drop ((ixR (M.rt d) pr ln 0).toNat + 1)) }) := by
  have nc := fun j u hh => new_cells w [.int .i64 1, .int .i64 (d : Int), .int .i64 hp, .int .i64 pr, .int .i64 ln, .int .i64 ix, .int .i64 cl, .bool pm, .bool up] 45 j u hh
  have c0 := nc 0 _ rfl
  have c1 := nc 1 _ rfl
  have c3 := nc 3 _ rfl
  have c4 := nc 4 _ rfl
  simp only [Addr.add_mid, Nat.zero_add] at c0 c1 c3 c4
  clear nc
  have HX := hide (h.new ((Ex.refl _ w).alloc (.cells #[.int .i64 1, .int .i64 (d : Int), .int .i64 hp, .int .i64 pr, .int .i64 ln, .int .i64 ix, .int .i64 cl, .bool pm, .bool up] 45)))
  have HE : Hid (Ex (fun _ => False) w (w.alloc (.cells #[.int .i64 1, .int .i64 (d : Int), .int .i64 hp, .int .i64 pr, .int .i64 ln, .int .i64 ix, .int .i64 cl, .bool pm, .bool up] 45))) := (Ex.refl _ w).alloc _
  have HSB : Hid (w.heap.size < (w.alloc (.cells #[.int .i64 1, .int .i64 (d : Int), .int .i64 hp, .int .i64 pr, .int .i64 ln, .int .i64 ix, .int .i64 cl, .bool pm, .bool up] 45)).heap.size) := by show _ < _; simp [go_sem]
  clear h
  have hdi : (d : Int) < 16 := by omega
  unfold chV
  simp only []
  have HRA := hide (routeAt_any _ b 0 M vr va HX.out.ma d hd pr ln h1)
  obtain ⟨at_, hat⟩ : ∃ a, ixR (M.rt d) pr ln 0 = a := ⟨_, rfl⟩
  rw [hat] at HRA hb
  rw [hat]
  clear hat
  obtain ⟨a, rfl⟩ : ∃ a : Nat, at_ = (a : Int) := ⟨at_.toNat, by omega⟩
  rw [Int.toNat_natCast]
  have dz : decide ((a : Int) < 0) = false := decide_eq_false (by omega)
  clear hb
  go_enter Try.func71, Try.ntmps71
  go_upto_region 1 with fail
  generalize w.alloc (.cells #[.int .i64 1, .int .i64 (d : Int), .int .i64 hp, .int .i64 pr, .int .i64 ln, .int .i64 ix, .int .i64 cl, .bool pm, .bool up] 45) = W at *
  go_wp2_with fail
  refine HRA.out.mono ?_
  rintro e w2 ⟨rfl, rfl⟩
  obtain ⟨i1, hi, hz0, hz1, hz2⟩ := info_parts Try.inf77
  have HI := hide (And.intro hi (And.intro hz0 (And.intro hz1 hz2)))
  clear hi hz0 hz1 hz2
  obtain ⟨r, hr⟩ : ∃ r, w.heap.size = r := ⟨_, rfl⟩
  have HRW := hide hr
  rw [hr] at c0 c1 c3 c4 ⊢
  clear hr
  rw [HRW.out] at HSB
  obtain ⟨L, hL⟩ : ∃ L, M.rt d = L := ⟨_, rfl⟩
  obtain ⟨n, hn⟩ : ∃ n, L.length = n := ⟨_, rfl⟩
  have nr := HX.out.ma.r d hd
  rw [Nat.zero_add] at nr
  obtain ⟨sa, sc, hv⟩ := own_len (HX.out.ma.ro d hd)
  have HO := hide (HX.out.ma.ro d hd)
  rw [hv, hL, hn] at HO nr
  rw [hL, hn] at hv
  have HV := hide hv
  have HL := hide hL
  have HNL := hide hn
  obtain ⟨B, hB⟩ : ∃ B, w2.heap.size = B := ⟨_, rfl⟩
  have HB := hide hB
  rw [hL, hn] at h1
  clear hv hL hn hB dz c0 c1 c3 c4 HRA
  go_wp2_with fail
  go_loopw [7, 8] (fun s7 s8 wr => ∃ (i qn qc : Nat) (qa : Option Addr) (Q : List Rt), s8 = .int .i64 i ∧ s7 = .slice qa qn qc ∧ i ≤ n ∧ Hid (Ex (fun _ => False) w2 wr) ∧ Hid (wr.ownsRow B 77 3 (.slice qa qn qc) qn (flatR Q)) ∧ Hid (Q = (L.take i).eraseIdx a) ∧ Hid (Q.length = qn)) (fun _ s8 _ => n - (intOf s8).toNat)
  case atStart => exact ⟨0, 0, 0, none, [], rfl, rfl, Nat.zero_le _, Ex.refl _ _, World.ownsRow_nil _ _ _ _, rfl, rfl⟩
  case round =>
    obtain ⟨i, qn, qc, qa, Q, rfl, rfl, hin, HE4, HQ, HQE, HQL⟩ := hrel
    have hqn : qn ≤ i := by
      have h1 := era_len L a i
      rw [← HQE.out, HQL.out] at h1
      exact h1
    have nr4 := HE4.out.cell (fun e => e) nr

    by_cases hlt : i < n
    · have d1 : decide ((i : Int) < (n : Int)) = true := decide_eq_true (by omega)
      have hii : (i : Int) < (n : Int) := by omega
      obtain ⟨x, hx⟩ : ∃ x, L[i]? = some x := ⟨_, List.getElem?_eq_getElem (by rw [HNL.out]; exact hlt)⟩
      have HES := hide (era_step a hx)
      by_cases hia : i = a
      · have d2 : ((i : Int) == (a : Int)) = true := by rw [hia]; exact beq_self_eq_true _
        rw [if_pos hia] at HES
        subst hia
        clear d2 hx
        go_wp2
        go_roundw
        case rel => exact ⟨i + 1, qn, qc, qa, Q, by go_num, rfl, by omega, HE4, HQ, (by show _ = _; rw [HES.out]; exact HQE.out), HQL⟩
        case measure => simp [intOf]; omega
      · have d2 : ((i : Int) == (a : Int)) = false := by simp; omega
        have d3 : ¬ ((i : Int) = (a : Int)) := by omega
        rw [if_neg hia] at HES
        obtain ⟨g, cc, hv⟩ := own_some HO.out (by omega)
        injection hv with hv1 hv2 hv3
        subst hv1
        have o1 := own_kept HO.out HE4.out (fun _ _ e => e)
        rw [← HNL.out] at o1
        obtain ⟨x0, x1, x2⟩ := rt_cells o1 rfl hx
        clear o1 hx hv2 hv3
        obtain ⟨xpr, xln, xhp⟩ := x
        simp only [] at x0 x1 x2
        have HQ2 : Hid ((L.take (i + 1)).eraseIdx a = Q ++ [⟨xpr, xln, xhp⟩]) := by show _ = _; rw [HES.out, HQE.out]
        go_wp2_with (at_builtin; refine wpList_append_own _ rfl _ _ 27 rfl B 77 i1 _ 3 24 Try.underlying27 HI.out.1 HI.out.2.1 HI.out.2.2.1 HI.out.2.2.2 rfl (by decide) (.slice qa qn qc) qn (flatR Q) rfl (HQ.out.alloc _) ⟨wr.heap.size, 0, none⟩ 1 1 [.int .i64 xpr, .int .i64 xln, .int .i64 xhp] rfl rfl (fun j u hj => new_cells wr [.int .i64 xpr, .int .i64 xln, .int .i64 xhp] 77 j u hj) (fun u hu => rt_one [⟨xpr, xln, xhp⟩] u (by simpa [flatR, Rt.vals] using hu)) (by unfold maxLen; omega) (by omega) (by have := HE4.out.size; have := HB.out; simp; omega) ?_; intro v6 w6 hown6 hgrow6 _)
        have HE6 := hide (app_ex HE4.out HQ.out HB.out hgrow6)
        obtain ⟨qa', qc', rfl⟩ := own_len hown6
        have HO6 : Hid (w6.ownsRow B 77 3 (.slice qa' (qn + 1) qc') (qn + 1) (flatR (Q ++ [⟨xpr, xln, xhp⟩]))) := by
          show World.ownsRow _ _ _ _ _ _ _
          rw [flatR_snoc]
          exact hown6
        have HQL6 : Hid ((Q ++ [(⟨xpr, xln, xhp⟩ : Rt)]).length = qn + 1) := by show _ = _; rw [List.length_append, HQL.out]; rfl
        clear hown6 hgrow6 x0 x1 x2 HES
        go_wp2
        go_roundw
        case rel => exact ⟨i + 1, qn + 1, qc', qa', _, by go_num, rfl, by omega, HE6, HO6, HQ2.out.symm, HQL6⟩
        case measure => simp [intOf]; omega
    · obtain rfl : i = n := by omega
      have d1 : decide ((i : Int) < (i : Int)) = false := decide_eq_false (by omega)
      have HQF : Hid (Q = L.take a ++ L.drop (a + 1)) := by
        show _ = _
        rw [HQE.out]
        exact era_end L a i HNL.out
      have hbW : b < w2.heap.size := HX.out.lt
      have nf4 : wr.frozen? ⟨b, d, none⟩ = false := (HE4.out.frozen (fun e => e) hbW).trans (HX.out.fz _)
      have HXG : Hid (MX (wr.setCell ⟨b, d, none⟩ (.slice qa qn qc)) b { M with rt := upd M.rt d Q } (upd vr d (.slice qa qn qc)) va) := by
        have h1 := HX.out.setR hd (HE4.out.mono (fun _ z => z.elim)) (L := Q) (v := .slice qa qn qc) (by rw [HQL.out]; exact own_low HQ.out (Nat.zero_le _)) (fun k hk => .inr (by rw [HB.out]; exact (HQ.out.lt k hk).1))
        rw [Nat.zero_add] at h1
        exact h1
      have HEF : Hid (Ex (MFt b vr va) w (wr.setCell ⟨b, d, none⟩ (.slice qa qn qc))) := ((HE.out.trans HE4.out).mono (fun _ z => z.elim)).set (p := b) (.inl rfl) _
      have HVT : Hid (∀ k, (Value.slice qa qn qc).ownBlock = some k → (vr d).ownBlock = some k ∨ r ≤ k) := fun k hk => .inr (by
        have := (HQ.out.lt k hk).1
        have := HB.out
        have := HSB.out
        omega)
      go_wp2
      go_ret
      rw [HL.out, ← HQF.out]
      refine ⟨rfl, HEF.out, _, _, HXG.out, fun k hk => ?_⟩
      rw [HRW.out]
      exact mft_setR hd HVT.out hk
end Go.Proofs.Qxb6500778a
