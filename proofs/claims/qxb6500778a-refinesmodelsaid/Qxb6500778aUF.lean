import Derived.Test.Qxb6500778aUD
namespace Go.Proofs.Qxb6500778a
open Go.RowKit

set_option linter.unusedSimpArgs false in
set_option maxRecDepth 100000 in
set_option maxHeartbeats 8000000 in
theorem mch_3bad (w : World) (b : Nat) (M : MN) (vr va : Nat → Value) (h : MX w b M vr va) (d : Nat) (hd : d < 16) (ix : Nat) (hp pr ln cl : Int) (pm up : Bool)
    (hb : (M.ac d).length ≤ ix) :
    Calls Try.prog 71 #[.pointer (some ⟨b, 0, none⟩), chV ⟨3, d, hp, pr, ln, ix, cl, pm, up⟩] w (CMPost w b vr va 7 M) := by
  have nc := fun j u hh => new_cells w [.int .i64 3, .int .i64 (d : Int), .int .i64 hp, .int .i64 pr, .int .i64 ln, .int .i64 (ix : Int), .int .i64 cl, .bool pm, .bool up] 45 j u hh
  have c0 := nc 0 _ rfl
  have c1 := nc 1 _ rfl
  have c5 := nc 5 _ rfl
  simp only [Addr.add_mid, Nat.zero_add] at c0 c1 c5
  clear nc
  have HX := hide (h.new ((Ex.refl _ w).alloc (.cells #[.int .i64 3, .int .i64 (d : Int), .int .i64 hp, .int .i64 pr, .int .i64 ln, .int .i64 (ix : Int), .int .i64 cl, .bool pm, .bool up] 45)))
  have HE : Hid (Ex (fun _ => False) w (w.alloc (.cells #[.int .i64 3, .int .i64 (d : Int), .int .i64 hp, .int .i64 pr, .int .i64 ln, .int .i64 (ix : Int), .int .i64 cl, .bool pm, .bool up] 45))) := (Ex.refl _ w).alloc _
  have HSB : Hid (w.heap.size < (w.alloc (.cells #[.int .i64 3, .int .i64 (d : Int), .int .i64 hp, .int .i64 pr, .int .i64 ln, .int .i64 (ix : Int), .int .i64 cl, .bool pm, .bool up] 45)).heap.size) := by show _ < _; simp [go_sem]
  clear h
  have hdi : (d : Int) < 16 := by omega
  unfold chV
  simp only []
  go_enter Try.func71, Try.ntmps71
  go_upto_region 1 with fail
  generalize w.alloc (.cells #[.int .i64 3, .int .i64 (d : Int), .int .i64 hp, .int .i64 pr, .int .i64 ln, .int .i64 (ix : Int), .int .i64 cl, .bool pm, .bool up] 45) = W at *
  obtain ⟨r, hr⟩ : ∃ r, w.heap.size = r := ⟨_, rfl⟩
  have HRW := hide hr
  rw [hr] at c0 c1 c5 ⊢
  clear hr
  rw [HRW.out] at HSB
  have nr := HX.out.ma.a d hd
  rw [Nat.zero_add] at nr
  obtain ⟨sa, sc, hv⟩ := own_len (HX.out.ma.ao d hd)
  obtain ⟨n, hn⟩ : ∃ n, (M.ac d).length = n := ⟨_, rfl⟩
  rw [hv, hn] at nr
  rw [hn] at hb
  have dz : decide ((n : Int) ≤ (ix : Int)) = true := decide_eq_true (by omega)
  clear hv hn HSB HRW
  go_upto_region 35 with fail
  go_quiet (fail)
  replace HE := hide (HE.out.drewN nq)
  replace HX := hide (HX.out.new ((Ex.refl (fun _ => False) _).drewN nq))
  go_wp2
  go_ret
  exact ⟨rfl, HE.out.mono (fun _ z => z.elim), vr, va, HX.out, fun k hk => .inl hk⟩
set_option linter.unusedSimpArgs false in
set_option maxRecDepth 100000 in
set_option maxHeartbeats 8000000 in
theorem mch_3 (w : World) (b : Nat) (M : MN) (vr va : Nat → Value) (h : MX w b M vr va) (d : Nat) (hd : d < 16) (ix : Nat) (hp pr ln cl : Int) (pm up : Bool)
    (h1 : (M.ac d).length ≤ 1000000) (hb : ix < (M.ac d).length) :
    Calls Try.prog 71 #[.pointer (some ⟨b, 0, none⟩), chV ⟨3, d, hp, pr, ln, ix, cl, pm, up⟩] w (CMPost w b vr va 0 { M with ac := upd M.ac d ((M.ac d).take ix ++ (M.ac d).drop (ix + 1)) }) := by
  have nc := fun j u hh => new_cells w [.int .i64 3, .int .i64 (d : Int), .int .i64 hp, .int .i64 pr, .int .i64 ln, .int .i64 (ix : Int), .int .i64 cl, .bool pm, .bool up] 45 j u hh
  have c0 := nc 0 _ rfl
  have c1 := nc 1 _ rfl
  have c5 := nc 5 _ rfl
  simp only [Addr.add_mid, Nat.zero_add] at c0 c1 c5
  clear nc
  have HX := hide (h.new ((Ex.refl _ w).alloc (.cells #[.int .i64 3, .int .i64 (d : Int), .int .i64 hp, .int .i64 pr, .int .i64 ln, .int .i64 (ix : Int), .int .i64 cl, .bool pm, .bool up] 45)))
  have HE : Hid (Ex (fun _ => False) w (w.alloc (.cells #[.int .i64 3, .int .i64 (d : Int), .int .i64 hp, .int .i64 pr, .int .i64 ln, .int .i64 (ix : Int), .int .i64 cl, .bool pm, .bool up] 45))) := (Ex.refl _ w).alloc _
  have HSB : Hid (w.heap.size < (w.alloc (.cells #[.int .i64 3, .int .i64 (d : Int), .int .i64 hp, .int .i64 pr, .int .i64 ln, .int .i64 (ix : Int), .int .i64 cl, .bool pm, .bool up] 45)).heap.size) := by show _ < _; simp [go_sem]
  clear h
  have hdi : (d : Int) < 16 := by omega
  unfold chV
  simp only []
  obtain ⟨i1, hi, hz0, hz1, hz2⟩ := info_parts Try.inf81
  have HI := hide (And.intro hi (And.intro hz0 (And.intro hz1 hz2)))
  clear hi hz0 hz1 hz2
  go_enter Try.func71, Try.ntmps71
  go_upto_region 1 with fail
  generalize w.alloc (.cells #[.int .i64 3, .int .i64 (d : Int), .int .i64 hp, .int .i64 pr, .int .i64 ln, .int .i64 (ix : Int), .int .i64 cl, .bool pm, .bool up] 45) = W at *
  obtain ⟨r, hr⟩ : ∃ r, w.heap.size = r := ⟨_, rfl⟩
  have HRW := hide hr
  rw [hr] at c0 c1 c5 ⊢
  clear hr
  rw [HRW.out] at HSB
  have nr := HX.out.ma.a d hd
  rw [Nat.zero_add] at nr
  obtain ⟨sa, sc, hv⟩ := own_len (HX.out.ma.ao d hd)
  obtain ⟨n, hn⟩ : ∃ n, (M.ac d).length = n := ⟨_, rfl⟩
  rw [hv, hn] at nr
  rw [hn] at hb
  have dz : decide ((n : Int) ≤ (ix : Int)) = false := decide_eq_false (by omega)
  have dz2 : ¬ n ≤ ix := by omega
  have HN0 := hide hn
  clear hb hv hn
  go_upto_region 35 with fail
  go_quiet (fail)
  replace HE := hide (HE.out.drewN nq)
  replace HX := hide (HX.out.new ((Ex.refl (fun _ => False) _).drewN nq))
  have c5 : (W.drewN nq).cell? ⟨r, 5, none⟩ = some (.int .i64 (ix : Int)) := ((Ex.refl (fun _ => False) W).drewN nq).cell (fun e => e) c5
  go_wp2_with fail
  clear nr c0 c1 dz dz2 HN0
  replace HSB : Hid (r < (W.drewN nq).heap.size) := by show _ < _; have := HSB.out; simp [go_sem]; exact this
  generalize W.drewN nq = W at *
  obtain ⟨L, hL⟩ : ∃ L, M.ac d = L := ⟨_, rfl⟩
  obtain ⟨n, hn⟩ : ∃ n, L.length = n := ⟨_, rfl⟩
  have nr := HX.out.ma.a d hd
  rw [Nat.zero_add] at nr
  obtain ⟨sa, sc, hv⟩ := own_len (HX.out.ma.ao d hd)
  have HO := hide (HX.out.ma.ao d hd)
  rw [hv, hL, hn] at HO nr
  rw [hL, hn] at hv
  have HV := hide hv
  have HL := hide hL
  have HNL := hide hn
  obtain ⟨B, hB⟩ : ∃ B, W.heap.size = B := ⟨_, rfl⟩
  have HB := hide hB
  rw [hL, hn] at h1
  clear hv hL hn hB
  go_loopw [11, 12] (fun s11 s12 wr => ∃ (i qn qc : Nat) (qa : Option Addr) (Q : List Rl), s12 = .int .i64 i ∧ s11 = .slice qa qn qc ∧ i ≤ n ∧ Hid (Ex (fun _ => False) W wr) ∧ Hid (wr.ownsRow B 81 4 (.slice qa qn qc) qn (flatA Q)) ∧ Hid (Q = (L.take i).eraseIdx ix) ∧ Hid (Q.length = qn)) (fun _ s12 _ => n - (intOf s12).toNat)
  case atStart => exact ⟨0, 0, 0, none, [], rfl, rfl, Nat.zero_le _, Ex.refl _ _, World.ownsRow_nil _ _ _ _, rfl, rfl⟩
  case round =>
    obtain ⟨i, qn, qc, qa, Q, rfl, rfl, hin, HE4, HQ, HQE, HQL⟩ := hrel
    have hqn : qn ≤ i := by
      have h1 := era_len L ix i
      rw [← HQE.out, HQL.out] at h1
      exact h1
    have nr4 := HE4.out.cell (fun e => e) nr
    have c54 := HE4.out.cell (fun e => e) c5
    by_cases hlt : i < n
    · have d1 : decide ((i : Int) < (n : Int)) = true := decide_eq_true (by omega)
      have hii : (i : Int) < (n : Int) := by omega
      obtain ⟨x, hx⟩ : ∃ x, L[i]? = some x := ⟨_, List.getElem?_eq_getElem (by rw [HNL.out]; exact hlt)⟩
      have HES := hide (era_step ix hx)
      by_cases hia : i = ix
      · have d2 : ((i : Int) == (ix : Int)) = true := by rw [hia]; exact beq_self_eq_true _
        rw [if_pos hia] at HES
        subst hia
        clear d2 hx
        go_wp2
        go_roundw
        case rel => exact ⟨i + 1, qn, qc, qa, Q, by go_num, rfl, by omega, HE4, HQ, (by show _ = _; rw [HES.out]; exact HQE.out), HQL⟩
        case measure => simp [intOf]; omega
      · have d2 : ((i : Int) == (ix : Int)) = false := by simp; omega
        have d3 : ¬ ((i : Int) = (ix : Int)) := by omega
        rw [if_neg hia] at HES
        obtain ⟨g, cc, hv⟩ := own_some HO.out (by omega)
        injection hv with hv1 hv2 hv3
        subst hv1
        have o1 := own_kept HO.out HE4.out (fun _ _ e => e)
        rw [← HNL.out] at o1
        obtain ⟨x0, x1, x2, x3⟩ := rl_cells o1 rfl hx
        clear o1 hx hv2 hv3
        obtain ⟨xpm, xpr, xln, xcl⟩ := x
        simp only [] at x0 x1 x2 x3
        have HQ2 : Hid ((L.take (i + 1)).eraseIdx ix = Q ++ [⟨xpm, xpr, xln, xcl⟩]) := by show _ = _; rw [HES.out, HQE.out]
        go_wp2_with (at_builtin; refine wpList_append_own _ rfl _ _ 29 rfl B 81 i1 _ 4 32 Try.underlying29 HI.out.1 HI.out.2.1 HI.out.2.2.1 HI.out.2.2.2 rfl (by decide) (.slice qa qn qc) qn (flatA Q) rfl (HQ.out.alloc _) ⟨wr.heap.size, 0, none⟩ 1 1 [.bool xpm, .int .i64 xpr, .int .i64 xln, .int .i64 xcl] rfl rfl (fun j u hj => new_cells wr [.bool xpm, .int .i64 xpr, .int .i64 xln, .int .i64 xcl] 81 j u hj) (fun u hu => rl_one [⟨xpm, xpr, xln, xcl⟩] u (by simpa [flatA, Rl.vals] using hu)) (by unfold maxLen; omega) (by omega) (by have := HE4.out.size; have := HB.out; simp; omega) ?_; intro v6 w6 hown6 hgrow6 _)
        have HE6 := hide (app_ex HE4.out HQ.out HB.out hgrow6)
        obtain ⟨qa', qc', rfl⟩ := own_len hown6
        have HO6 : Hid (w6.ownsRow B 81 4 (.slice qa' (qn + 1) qc') (qn + 1) (flatA (Q ++ [⟨xpm, xpr, xln, xcl⟩]))) := by
          show World.ownsRow _ _ _ _ _ _ _
          rw [flatA_snoc]
          exact hown6
        have HQL6 : Hid ((Q ++ [(⟨xpm, xpr, xln, xcl⟩ : Rl)]).length = qn + 1) := by show _ = _; rw [List.length_append, HQL.out]; rfl
        clear hown6 hgrow6 x0 x1 x2 x3 HES
        go_wp2
        go_roundw
        case rel => exact ⟨i + 1, qn + 1, qc', qa', _, by go_num, rfl, by omega, HE6, HO6, HQ2.out.symm, HQL6⟩
        case measure => simp [intOf]; omega
    · obtain rfl : i = n := by omega
      have d1 : decide ((i : Int) < (i : Int)) = false := decide_eq_false (by omega)
      have HQF : Hid (Q = L.take ix ++ L.drop (ix + 1)) := by
        show _ = _
        rw [HQE.out]
        exact era_end L ix i HNL.out
      have hbW : b < W.heap.size := HX.out.lt
      have nf4 : wr.frozen? ⟨b, 16 + d, none⟩ = false := (HE4.out.frozen (fun e => e) hbW).trans (HX.out.fz _)
      have HXG : Hid (MX (wr.setCell ⟨b, 16 + d, none⟩ (.slice qa qn qc)) b { M with ac := upd M.ac d Q } vr (upd va d (.slice qa qn qc))) := by
        have h1 := HX.out.setA hd (HE4.out.mono (fun _ z => z.elim)) (L := Q) (v := .slice qa qn qc) (by rw [HQL.out]; exact own_low HQ.out (Nat.zero_le _)) (fun k hk => .inr (by rw [HB.out]; exact (HQ.out.lt k hk).1))
        rw [Nat.zero_add] at h1
        exact h1
      have HEF : Hid (Ex (MFt b vr va) w (wr.setCell ⟨b, 16 + d, none⟩ (.slice qa qn qc))) := ((HE.out.trans HE4.out).mono (fun _ z => z.elim)).set (p := b) (.inl rfl) _
      have HVT : Hid (∀ k, (Value.slice qa qn qc).ownBlock = some k → (va d).ownBlock = some k ∨ r ≤ k) := fun k hk => .inr (by
        have := (HQ.out.lt k hk).1
        have := HB.out
        have := HSB.out
        omega)
      go_wp2
      go_ret
      rw [HL.out, ← HQF.out]
      refine ⟨rfl, HEF.out, _, _, HXG.out, fun k hk => ?_⟩
      rw [HRW.out]
      exact mft_setA hd HVT.out hk
end Go.Proofs.Qxb6500778a
