import Derived.Test.Qxb6500778aUF
namespace Go.Proofs.Qxb6500778a
open Go.RowKit

section
variable {α : Type} {L : List α} {x y : α} {i k : Nat}
theorem ins_len (h : k ≤ L.length) : (L.take k ++ y :: L.drop k).length = L.length + 1 := by
  rw [List.length_append, List.length_cons, List.length_take, List.length_drop]; omega
theorem ins_lo (h : L[i]? = some x) (hik : i < k) : (L.take k ++ y :: L.drop k)[i]? = some x := by
  have hi := (List.getElem?_eq_some_iff.1 h).1
  rw [List.getElem?_append_left (by rw [List.length_take]; omega), List.getElem?_take, if_pos hik]
  exact h
theorem ins_at (h : k ≤ L.length) : (L.take k ++ y :: L.drop k)[k]? = some y := by
  rw [List.getElem?_append_right (by rw [List.length_take]; omega), List.length_take, Nat.min_eq_left h, Nat.sub_self]
  rfl
theorem ins_hi (h : L[i]? = some x) (hik : k ≤ i) : (L.take k ++ y :: L.drop k)[i + 1]? = some x := by
  have hi := (List.getElem?_eq_some_iff.1 h).1
  rw [List.getElem?_append_right (by rw [List.length_take]; omega), List.length_take, Nat.min_eq_left (by omega), show i + 1 - k = (i - k) + 1 by omega, List.getElem?_cons_succ, List.getElem?_drop, show k + (i - k) = i by omega]
  exact h
theorem take_snoc {J : List α} {m : Nat} (h : J[m]? = some x) : J.take (m + 1) = J.take m ++ [x] := by
  rw [List.take_add_one, h]; rfl
end
set_option linter.unusedSimpArgs false in
set_option maxRecDepth 100000 in
set_option maxHeartbeats 8000000 in
theorem mch_2bad (w : World) (b : Nat) (M : MN) (vr va : Nat → Value) (h : MX w b M vr va) (d : Nat) (hd : d < 16) (ix : Nat) (hp pr ln cl : Int) (pm up : Bool)
    (h1 : (M.rt d).length ≤ 1000000) (h2 : (M.ac d).length ≤ 1000000) (hb : (M.ac d).length < ix ∨ 64 ≤ (M.rt d).length + (M.ac d).length) :
    Calls Try.prog 71 #[.pointer (some ⟨b, 0, none⟩), chV ⟨2, d, hp, pr, ln, ix, cl, pm, up⟩] w (CMPost w b vr va (if (M.ac d).length < ix then 7 else 8) M) := by
  have nc := fun j u hh => new_cells w [.int .i64 2, .int .i64 (d : Int), .int .i64 hp, .int .i64 pr, .int .i64 ln, .int .i64 (ix : Int), .int .i64 cl, .bool pm, .bool up] 45 j u hh
  have c0 := nc 0 _ rfl
  have c1 := nc 1 _ rfl
  have c5 := nc 5 _ rfl
  simp only [Addr.add_mid, Nat.zero_add] at c0 c1 c5
  clear nc
  have HX := hide (h.new ((Ex.refl _ w).alloc (.cells #[.int .i64 2, .int .i64 (d : Int), .int .i64 hp, .int .i64 pr, .int .i64 ln, .int .i64 (ix : Int), .int .i64 cl, .bool pm, .bool up] 45)))
  have HE : Hid (Ex (fun _ => False) w (w.alloc (.cells #[.int .i64 2, .int .i64 (d : Int), .int .i64 hp, .int .i64 pr, .int .i64 ln, .int .i64 (ix : Int), .int .i64 cl, .bool pm, .bool up] 45))) := (Ex.refl _ w).alloc _
  have HSB : Hid (w.heap.size < (w.alloc (.cells #[.int .i64 2, .int .i64 (d : Int), .int .i64 hp, .int .i64 pr, .int .i64 ln, .int .i64 (ix : Int), .int .i64 cl, .bool pm, .bool up] 45)).heap.size) := by show _ < _; simp [go_sem]
  clear h
  have hdi : (d : Int) < 16 := by omega
  unfold chV
  simp only []
  by_cases hlt : (M.ac d).length < ix
  · rw [if_pos hlt]
    clear hb
    go_enter Try.func71, Try.ntmps71
    go_upto_region 1 with fail
    generalize w.alloc (.cells #[.int .i64 2, .int .i64 (d : Int), .int .i64 hp, .int .i64 pr, .int .i64 ln, .int .i64 (ix : Int), .int .i64 cl, .bool pm, .bool up] 45) = W at *
    obtain ⟨r, hr⟩ : ∃ r, w.heap.size = r := ⟨_, rfl⟩
    have HRW := hide hr
    rw [hr] at c0 c1 c5 ⊢
    clear hr
    rw [HRW.out] at HSB
    have nr := HX.out.ma.a d hd
    rw [Nat.zero_add] at nr
    obtain ⟨sa, sc, hv⟩ := own_len (HX.out.ma.ao d hd)
    obtain ⟨n, hn⟩ : ∃ n, (M.ac d).length = n := ⟨_, rfl⟩
    rw [hv, hn] at nr
    rw [hn] at hlt
    have dz : decide ((n : Int) < (ix : Int)) = true := decide_eq_true (by omega)
    clear hv hn HSB HRW
    go_upto_region 21 with fail
    go_quiet (fail)
    replace HE := hide (HE.out.drewN nq)
    replace HX := hide (HX.out.new ((Ex.refl (fun _ => False) _).drewN nq))
    go_wp2
    go_ret
    exact ⟨rfl, HE.out.mono (fun _ z => z.elim), vr, va, HX.out, fun k hk => .inl hk⟩
  · have hfull : 64 ≤ (M.rt d).length + (M.ac d).length := by
      rcases hb with z | z
      · exact absurd z hlt
      · exact z
    rw [if_neg hlt]
    clear hb
    go_enter Try.func71, Try.ntmps71
    go_upto_region 1 with fail
    generalize w.alloc (.cells #[.int .i64 2, .int .i64 (d : Int), .int .i64 hp, .int .i64 pr, .int .i64 ln, .int .i64 (ix : Int), .int .i64 cl, .bool pm, .bool up] 45) = W at *
    obtain ⟨r, hr⟩ : ∃ r, w.heap.size = r := ⟨_, rfl⟩
    have HRW := hide hr
    rw [hr] at c0 c1 c5 ⊢
    clear hr
    rw [HRW.out] at HSB
    have nr := HX.out.ma.a d hd
    rw [Nat.zero_add] at nr
    obtain ⟨sa, sc, hv⟩ := own_len (HX.out.ma.ao d hd)
    obtain ⟨n, hn⟩ : ∃ n, (M.ac d).length = n := ⟨_, rfl⟩
    rw [hv, hn] at nr
    rw [hn] at hlt
    have hle2 : ix ≤ n := by omega
    have dz : decide ((n : Int) < (ix : Int)) = false := decide_eq_false (by omega)
    clear hv hn HSB HRW
    go_upto_region 21 with fail
    go_quiet (fail)
    replace HE := hide (HE.out.drewN nq)
    replace HX := hide (HX.out.new ((Ex.refl (fun _ => False) _).drewN nq))
    have HFU := hide (full_any _ b 0 M vr va HX.out.ma d hd h1 h2)
    rw [decide_eq_true hfull] at HFU
    clear hfull
    generalize W.drewN nq = W1 at *
    go_wp2_with fail
    refine HFU.out.mono ?_
    rintro e w3 ⟨rfl, m, rfl⟩
    replace HE := hide (HE.out.drewN m)
    replace HX := hide (HX.out.new ((Ex.refl (fun _ => False) _).drewN m))
    go_wp2
    go_ret
    exact ⟨rfl, HE.out.mono (fun _ z => z.elim), vr, va, HX.out, fun k hk => .inl hk⟩
set_option linter.unusedSimpArgs false in
set_option maxRecDepth 100000 in
set_option maxHeartbeats 8000000 in
theorem mch_2 (w : World) (b : Nat) (M : MN) (vr va : Nat → Value) (h : MX w b M vr va) (d : Nat) (hd : d < 16) (ix : Nat) (hp pr ln cl : Int) (pm up : Bool)
    (hb : ix ≤ (M.ac d).length) (hfu : (M.rt d).length + (M.ac d).length < 64) :
    Calls Try.prog 71 #[.pointer (some ⟨b, 0, none⟩), chV ⟨2, d, hp, pr, ln, ix, cl, pm, up⟩] w (CMPost w b vr va 0 { M with ac := upd M.ac d ((M.ac d).take ix ++ ⟨pm, pr, ln, cl⟩ :: (M.ac d).drop ix) }) := by
  have nc := fun j u hh => new_cells w [.int .i64 2, .int .i64 (d : Int), .int .i64 hp, .int .i64 pr, .int .i64 ln, .int .i64 (ix : Int), .int .i64 cl, .bool pm, .bool up] 45 j u hh
  have c0 := nc 0 _ rfl
  have c1 := nc 1 _ rfl
  have c3 := nc 3 _ rfl
  have c4 := nc 4 _ rfl
  have c5 := nc 5 _ rfl
  have c6 := nc 6 _ rfl
  have c7 := nc 7 _ rfl
  simp only [Addr.add_mid, Nat.zero_add] at c0 c1 c3 c4 c5 c6 c7
  clear nc
  have HX := hide (h.new ((Ex.refl _ w).alloc (.cells #[.int .i64 2, .int .i64 (d : Int), .int .i64 hp, .int .i64 pr, .int .i64 ln, .int .i64 (ix : Int), .int .i64 cl, .bool pm, .bool up] 45)))
  have HE : Hid (Ex (fun _ => False) w (w.alloc (.cells #[.int .i64 2, .int .i64 (d : Int), .int .i64 hp, .int .i64 pr, .int .i64 ln, .int .i64 (ix : Int), .int .i64 cl, .bool pm, .bool up] 45))) := (Ex.refl _ w).alloc _
  have HSB : Hid (w.heap.size < (w.alloc (.cells #[.int .i64 2, .int .i64 (d : Int), .int .i64 hp, .int .i64 pr, .int .i64 ln, .int .i64 (ix : Int), .int .i64 cl, .bool pm, .bool up] 45)).heap.size) := by show _ < _; simp [go_sem]
  clear h
  have hdi : (d : Int) < 16 := by omega
  unfold chV
  simp only []
  obtain ⟨i1, hi, hz0, hz1, hz2⟩ := info_parts Try.inf81
  have HI := hide (And.intro hi (And.intro hz0 (And.intro hz1 hz2)))
  clear hi hz0 hz1 hz2
  go_enter Try.func71, Try.ntmps71
  go_upto_region 1 with fail
  generalize w.alloc (.cells #[.int .i64 2, .int .i64 (d : Int), .int .i64 hp, .int .i64 pr, .int .i64 ln, .int .i64 (ix : Int), .int .i64 cl, .bool pm, .bool up] 45) = W at *
  obtain ⟨r, hr⟩ : ∃ r, w.heap.size = r := ⟨_, rfl⟩
  have HRW := hide hr
  rw [hr] at c0 c1 c3 c4 c5 c6 c7 ⊢
  clear hr
  rw [HRW.out] at HSB
  have nr := HX.out.ma.a d hd
  rw [Nat.zero_add] at nr
  obtain ⟨sa, sc, hv⟩ := own_len (HX.out.ma.ao d hd)
  obtain ⟨n, hn⟩ : ∃ n, (M.ac d).length = n := ⟨_, rfl⟩
  rw [hv, hn] at nr
  rw [hn] at hb
  have dz : decide ((n : Int) < (ix : Int)) = false := decide_eq_false (by omega)
  have dz2 : ¬ n < ix := by omega
  have HN0 := hide hn
  clear hv hn
  go_upto_region 21 with fail
  go_quiet (fail)
  replace HE := hide (HE.out.drewN nq)
  replace HX := hide (HX.out.new ((Ex.refl (fun _ => False) _).drewN nq))
  have HFU := hide (full_any _ b 0 M vr va HX.out.ma d hd (by omega) (by omega))
  rw [decide_eq_false (by omega)] at HFU
  replace HSB : Hid (r < (W.drewN nq).heap.size) := by show _ < _; have := HSB.out; simp [go_sem]; exact this
  have c3 : (W.drewN nq).cell? ⟨r, 3, none⟩ = _ := ((Ex.refl (fun _ => False) W).drewN nq).cell (fun e => e) c3
  have c4 : (W.drewN nq).cell? ⟨r, 4, none⟩ = _ := ((Ex.refl (fun _ => False) W).drewN nq).cell (fun e => e) c4
  have c5 : (W.drewN nq).cell? ⟨r, 5, none⟩ = _ := ((Ex.refl (fun _ => False) W).drewN nq).cell (fun e => e) c5
  have c6 : (W.drewN nq).cell? ⟨r, 6, none⟩ = _ := ((Ex.refl (fun _ => False) W).drewN nq).cell (fun e => e) c6
  have c7 : (W.drewN nq).cell? ⟨r, 7, none⟩ = _ := ((Ex.refl (fun _ => False) W).drewN nq).cell (fun e => e) c7
  clear nr c0 c1
  generalize W.drewN nq = W1 at *
  go_wp2_with fail
  refine HFU.out.mono ?_
  rintro e w3 ⟨rfl, m, rfl⟩
  clear HFU
  replace HE := hide (HE.out.drewN m)
  replace HX := hide (HX.out.new ((Ex.refl (fun _ => False) _).drewN m))
  replace HSB : Hid (r < (W1.drewN m).heap.size) := by show _ < _; have := HSB.out; simp [go_sem]; exact this
  have c3 : (W1.drewN m).cell? ⟨r, 3, none⟩ = _ := ((Ex.refl (fun _ => False) W1).drewN m).cell (fun e => e) c3
  have c4 : (W1.drewN m).cell? ⟨r, 4, none⟩ = _ := ((Ex.refl (fun _ => False) W1).drewN m).cell (fun e => e) c4
  have c5 : (W1.drewN m).cell? ⟨r, 5, none⟩ = _ := ((Ex.refl (fun _ => False) W1).drewN m).cell (fun e => e) c5
  have c6 : (W1.drewN m).cell? ⟨r, 6, none⟩ = _ := ((Ex.refl (fun _ => False) W1).drewN m).cell (fun e => e) c6
  have c7 : (W1.drewN m).cell? ⟨r, 7, none⟩ = _ := ((Ex.refl (fun _ => False) W1).drewN m).cell (fun e => e) c7
  generalize W1.drewN m = W at *
  clear dz dz2
  go_wp2_with fail
  obtain ⟨L, hL⟩ : ∃ L, M.ac d = L := ⟨_, rfl⟩
  have hn : L.length = n := by rw [← hL]; exact HN0.out
  have nr2 := HX.out.ma.a d hd
  rw [Nat.zero_add] at nr2
  obtain ⟨sa2, sc2, hv⟩ := own_len (HX.out.ma.ao d hd)
  have HO := hide (HX.out.ma.ao d hd)
  rw [hv, hL, hn] at HO nr2
  rw [hL, hn] at hv
  have HV := hide hv
  have HL := hide hL
  have HNL := hide hn
  obtain ⟨B, hB⟩ : ∃ B, W.heap.size = B := ⟨_, rfl⟩
  have HB := hide hB
  have hn64 : n < 64 := by rw [HN0.out] at hfu; omega
  clear hv hL hn hB hfu HN0
  obtain ⟨J, hJ⟩ : ∃ J, L.take ix ++ (⟨pm, pr, ln, cl⟩ : Rl) :: L.drop ix = J := ⟨_, rfl⟩
  have HJ := hide hJ
  have HJL : Hid (J.length = n + 1) := by show _ = _; rw [← hJ, ins_len (by rw [HNL.out]; exact hb), HNL.out]
  have HJlo : Hid (∀ i x, L[i]? = some x → i < ix → J[i]? = some x) := fun i x h1 h2 => by rw [← HJ.out]; exact ins_lo h1 h2
  have HJat : Hid (J[ix]? = some ⟨pm, pr, ln, cl⟩) := by show _ = _; rw [← HJ.out]; exact ins_at (by rw [HNL.out]; exact hb)
  have HJhi : Hid (∀ i x, L[i]? = some x → ix ≤ i → J[i + 1]? = some x) := fun i x h1 h2 => by rw [← HJ.out]; exact ins_hi h1 h2
  clear hJ
  go_loopw [9, 10] (fun s9 s10 wr => ∃ (i qn qc : Nat) (qa : Option Addr) (Q : List Rl), s10 = .int .i64 i ∧ s9 = .slice qa qn qc ∧ i ≤ n + 1 ∧ Hid (Ex (fun _ => False) W wr) ∧ Hid (wr.ownsRow B 81 4 (.slice qa qn qc) qn (flatA Q)) ∧ Hid (Q = J.take (if i ≤ ix then i else i + 1)) ∧ Hid (Q.length = qn)) (fun _ s10 _ => n + 1 - (intOf s10).toNat)
  case atStart => exact ⟨0, 0, 0, none, [], rfl, rfl, Nat.zero_le _, Ex.refl _ _, World.ownsRow_nil _ _ _ _, (by show [] = J.take _; rw [if_pos (Nat.zero_le _)]; rfl), rfl⟩
  case round =>
    obtain ⟨i, qn, qc, qa, Q, rfl, rfl, hin, HE4, HQ, HQE, HQL⟩ := hrel
    have hqn : qn ≤ n + 1 := by
      rw [← HQL.out, HQE.out, List.length_take, HJL.out]
      omega
    have nr4 := HE4.out.cell (fun e => e) nr2
    have q3 := HE4.out.cell (fun e => e) c3
    have q4 := HE4.out.cell (fun e => e) c4
    have q5 := HE4.out.cell (fun e => e) c5
    have q6 := HE4.out.cell (fun e => e) c6
    have q7 := HE4.out.cell (fun e => e) c7
    by_cases hle : i ≤ n
    · have d0 : decide ((i : Int) ≤ (n : Int)) = true := decide_eq_true (by omega)
      by_cases hia : i = ix
      · subst hia
        rw [if_pos (Nat.le_refl _)] at HQE
        have HQ2 : Hid (J.take (i + 1) = Q ++ [⟨pm, pr, ln, cl⟩]) := by show _ = _; rw [take_snoc HJat.out, HQE.out]
        go_upto_region 31 with (at_builtin; refine wpList_append_own _ rfl _ _ 29 rfl B 81 i1 _ 4 32 Try.underlying29 HI.out.1 HI.out.2.1 HI.out.2.2.1 HI.out.2.2.2 rfl (by decide) (.slice qa qn qc) qn (flatA Q) rfl (HQ.out.alloc _) ⟨wr.heap.size, 0, none⟩ 1 1 [.bool pm, .int .i64 pr, .int .i64 ln, .int .i64 cl] rfl rfl (fun j u hj => new_cells wr [.bool pm, .int .i64 pr, .int .i64 ln, .int .i64 cl] 81 j u hj) (fun u hu => rl_one [⟨pm, pr, ln, cl⟩] u (by simpa [flatA, Rl.vals] using hu)) (by unfold maxLen; omega) (by omega) (by have := HE4.out.size; have := HB.out; simp; omega) ?_; intro v6 w6 hown6 hgrow6 _)
        have HE6 := hide (app_ex HE4.out HQ.out HB.out hgrow6)
        obtain ⟨qa', qc', rfl⟩ := own_len hown6
        have HQ6 : Hid (w6.ownsRow B 81 4 (.slice qa' (qn + 1) qc') (qn + 1) (flatA (Q ++ [⟨pm, pr, ln, cl⟩]))) := by
          show World.ownsRow _ _ _ _ _ _ _
          rw [flatA_snoc]
          exact hown6
        have HQL6 : Hid ((Q ++ [(⟨pm, pr, ln, cl⟩ : Rl)]).length = qn + 1) := by show _ = _; rw [List.length_append, HQL.out]; rfl
        clear hown6 hgrow6 nr4 HE4 HQ HQL HQE
        generalize Q ++ [(⟨pm, pr, ln, cl⟩ : Rl)] = Q1 at *
        have nr4 := HE6.out.cell (fun e => e) nr2
        clear q3 q4 q5 q6 q7
        by_cases hlt : i < n
        · have d1 : decide ((i : Int) < (n : Int)) = true := decide_eq_true (by omega)
          have hii : (i : Int) < (n : Int) := by omega
          obtain ⟨x, hx⟩ : ∃ x, L[i]? = some x := ⟨_, List.getElem?_eq_getElem (by rw [HNL.out]; exact hlt)⟩
          have HJX := hide (HJhi.out i x hx (Nat.le_refl _))
          obtain ⟨g, cc, hv⟩ := own_some HO.out (by omega)
          injection hv with hv1 hv2 hv3
          subst hv1
          have o1 := own_kept HO.out HE6.out (fun _ _ e => e)
          rw [← HNL.out] at o1
          obtain ⟨x0, x1, x2, x3⟩ := rl_cells o1 rfl hx
          clear o1 hx hv2 hv3
          obtain ⟨xpm, xpr, xln, xcl⟩ := x
          simp only [] at x0 x1 x2 x3
          have HQ3 : Hid (Q1 ++ [⟨xpm, xpr, xln, xcl⟩] = J.take (if i + 1 ≤ i then i + 1 else i + 1 + 1)) := by show _ = _; rw [if_neg (by omega), take_snoc HJX.out, HQ2.out]
          go_wp2_with (at_builtin; refine wpList_append_own _ rfl _ _ 29 rfl B 81 i1 _ 4 32 Try.underlying29 HI.out.1 HI.out.2.1 HI.out.2.2.1 HI.out.2.2.2 rfl (by decide) (.slice qa' (qn + 1) qc') (qn + 1) (flatA Q1) rfl (HQ6.out.alloc _) ⟨w6.heap.size, 0, none⟩ 1 1 [.bool xpm, .int .i64 xpr, .int .i64 xln, .int .i64 xcl] rfl rfl (fun j u hj => new_cells w6 [.bool xpm, .int .i64 xpr, .int .i64 xln, .int .i64 xcl] 81 j u hj) (fun u hu => rl_one [⟨xpm, xpr, xln, xcl⟩] u (by simpa [flatA, Rl.vals] using hu)) (by unfold maxLen; omega) (by omega) (by have := HE6.out.size; have := HB.out; simp; omega) ?_; intro v6 w7 hown7 hgrow7 _)
          have HE7 := hide (app_ex HE6.out HQ6.out HB.out hgrow7)
          obtain ⟨qa'', qc'', rfl⟩ := own_len hown7
          have HQ7 : Hid (w7.ownsRow B 81 4 (.slice qa'' (qn + 1 + 1) qc'') (qn + 1 + 1) (flatA (Q1 ++ [⟨xpm, xpr, xln, xcl⟩]))) := by
            show World.ownsRow _ _ _ _ _ _ _
            rw [flatA_snoc]
            exact hown7
          have HQL7 : Hid ((Q1 ++ [(⟨xpm, xpr, xln, xcl⟩ : Rl)]).length = qn + 1 + 1) := by show _ = _; rw [List.length_append, HQL6.out]; rfl
          clear hown7 hgrow7 x0 x1 x2 x3
          go_wp2
          go_roundw
          case rel => exact ⟨i + 1, _, qc'', qa'', _, by go_num, rfl, by omega, HE7, HQ7, HQ3, HQL7⟩
          case measure => (simp [intOf]; try omega)
        · obtain rfl : i = n := by omega
          have d1 : decide ((i : Int) < (i : Int)) = false := decide_eq_false (by omega)
          have HQ3 : Hid (Q1 = J.take (if i + 1 ≤ i then i + 1 else i + 1 + 1)) := by
            show _ = _
            have e1 : J.take (i + 1) = J := List.take_of_length_le (by rw [HJL.out]; exact Nat.le_refl _)
            have e2 : J.take (i + 1 + 1) = J := List.take_of_length_le (by rw [HJL.out]; omega)
            rw [if_neg (by omega), ← HQ2.out, e1, e2]
          go_wp2
          go_roundw
          case rel => exact ⟨i + 1, _, qc', qa', _, by go_num, rfl, by omega, HE6, HQ6, HQ3, HQL6⟩
          case measure => (simp [intOf]; try omega)
      · have d2 : ((i : Int) == (ix : Int)) = false := by simp; omega
        have d3 : ¬ ((i : Int) = (ix : Int)) := by omega
        by_cases hlt : i < n
        · have d1 : decide ((i : Int) < (n : Int)) = true := decide_eq_true (by omega)
          have hii : (i : Int) < (n : Int) := by omega
          obtain ⟨x, hx⟩ : ∃ x, L[i]? = some x := ⟨_, List.getElem?_eq_getElem (by rw [HNL.out]; exact hlt)⟩
          have HQ3 : Hid (Q ++ [x] = J.take (if i + 1 ≤ ix then i + 1 else i + 1 + 1)) := by
            show _ = _
            by_cases hl : i < ix
            · rw [if_pos (by omega), take_snoc (HJlo.out i x hx hl), HQE.out, if_pos (by omega)]
            · rw [if_neg (by omega), take_snoc (HJhi.out i x hx (by omega)), HQE.out, if_neg (by omega)]
          obtain ⟨g, cc, hv⟩ := own_some HO.out (by omega)
          injection hv with hv1 hv2 hv3
          subst hv1
          have o1 := own_kept HO.out HE4.out (fun _ _ e => e)
          rw [← HNL.out] at o1
          obtain ⟨x0, x1, x2, x3⟩ := rl_cells o1 rfl hx
          clear o1 hx hv2 hv3
          obtain ⟨xpm, xpr, xln, xcl⟩ := x
          simp only [] at x0 x1 x2 x3
          go_wp2_with (at_builtin; refine wpList_append_own _ rfl _ _ 29 rfl B 81 i1 _ 4 32 Try.underlying29 HI.out.1 HI.out.2.1 HI.out.2.2.1 HI.out.2.2.2 rfl (by decide) (.slice qa qn qc) qn (flatA Q) rfl (HQ.out.alloc _) ⟨wr.heap.size, 0, none⟩ 1 1 [.bool xpm, .int .i64 xpr, .int .i64 xln, .int .i64 xcl] rfl rfl (fun j u hj => new_cells wr [.bool xpm, .int .i64 xpr, .int .i64 xln, .int .i64 xcl] 81 j u hj) (fun u hu => rl_one [⟨xpm, xpr, xln, xcl⟩] u (by simpa [flatA, Rl.vals] using hu)) (by unfold maxLen; omega) (by omega) (by have := HE4.out.size; have := HB.out; simp; omega) ?_; intro v6 w6 hown6 hgrow6 _)
          have HE6 := hide (app_ex HE4.out HQ.out HB.out hgrow6)
          obtain ⟨qa', qc', rfl⟩ := own_len hown6
          have HQ7 : Hid (w6.ownsRow B 81 4 (.slice qa' (qn + 1) qc') (qn + 1) (flatA (Q ++ [⟨xpm, xpr, xln, xcl⟩]))) := by
            show World.ownsRow _ _ _ _ _ _ _
            rw [flatA_snoc]
            exact hown6
          have HQL7 : Hid ((Q ++ [(⟨xpm, xpr, xln, xcl⟩ : Rl)]).length = qn + 1) := by show _ = _; rw [List.length_append, HQL.out]; rfl
          clear hown6 hgrow6 x0 x1 x2 x3
          go_wp2
          go_roundw
          case rel => exact ⟨i + 1, _, qc', qa', _, by go_num, rfl, by omega, HE6, HQ7, HQ3, HQL7⟩
          case measure => (simp [intOf]; try omega)
        · obtain rfl : i = n := by omega
          have d1 : decide ((i : Int) < (i : Int)) = false := decide_eq_false (by omega)
          have HQ3 : Hid (Q = J.take (if i + 1 ≤ ix then i + 1 else i + 1 + 1)) := by
            show _ = _
            have e1 : J.take (i + 1) = J := List.take_of_length_le (by rw [HJL.out]; exact Nat.le_refl _)
            have e2 : J.take (i + 1 + 1) = J := List.take_of_length_le (by rw [HJL.out]; omega)
            rw [if_neg (by omega), HQE.out, if_neg (by omega), e1, e2]
          go_wp2
          go_roundw
          case rel => exact ⟨i + 1, _, qc, qa, _, by go_num, rfl, by omega, HE4, HQ, HQ3, HQL⟩
          case measure => (simp [intOf]; try omega)
    · obtain rfl : i = n + 1 := by omega
      have d1 : decide (((n + 1 : Nat) : Int) ≤ (n : Int)) = false := decide_eq_false (by omega)
      have HQF : Hid (Q = J) := by
        show _ = _
        rw [HQE.out, if_neg (by omega), List.take_of_length_le (by rw [HJL.out]; omega)]
      have hbW : b < W.heap.size := HX.out.lt
      have nf4 : wr.frozen? ⟨b, 16 + d, none⟩ = false := (HE4.out.frozen (fun e => e) hbW).trans (HX.out.fz _)
      have HXG : Hid (MX (wr.setCell ⟨b, 16 + d, none⟩ (.slice qa qn qc)) b { M with ac := upd M.ac d Q } vr (upd va d (.slice qa qn qc))) := by
        have h1 := HX.out.setA hd (HE4.out.mono (fun _ z => z.elim)) (L := Q) (v := .slice qa qn qc) (by rw [HQL.out]; exact own_low HQ.out (Nat.zero_le _)) (fun k hk => .inr (by rw [HB.out]; exact (HQ.out.lt k hk).1))
        rw [Nat.zero_add] at h1
        exact h1
      have HEF : Hid (Ex (MFt b vr va) w (wr.setCell ⟨b, 16 + d, none⟩ (.slice qa qn qc))) := ((HE.out.trans HE4.out).mono (fun _ z => z.elim)).set (p := b) (.inl rfl) _
      have HVT : Hid (∀ k, (Value.slice qa qn qc).ownBlock = some k → (va d).ownBlock = some k ∨ r ≤ k) := fun k hk => .inr (by
        have := (HQ.out.lt k hk).1
        have := HB.out
        have := HSB.out
        omega)
      go_wp2
      go_ret
      rw [HL.out, HJ.out, ← HQF.out]
      refine ⟨rfl, HEF.out, _, _, HXG.out, fun k hk => ?_⟩
      rw [HRW.out]
      exact mft_setA hd HVT.out hk
end Go.Proofs.Qxb6500778a
