import Derived.Test.Qxb6500778aUH
namespace Go.Proofs.Qxb6500778a
open Go.RowKit

theorem Try.sz34 : (Try.prog.info? 34).map (·.size) = some 304 := by kernel_rfl
theorem Try.zs34 : Try.zeroCells34.size = 304 := by kernel_rfl
theorem new_there (w : World) (z : Array Value) (t n : Nat) (h : z.size = n) : (w.alloc (.cells z t)).there w.heap.size 0 n := fun j hj => by
  refine ⟨?_, by simp [go_sem]⟩
  simp [go_sem, h, hj]
/-- A configuration by value, its rows new and apart. -/
structure MW (w : World) (Bs : Nat) (M : MN) (vr va : Nat → Value) : Prop where
  mv : MV w M vr va
  rb : ∀ d, d < 16 → ∀ k, (vr d).ownBlock = some k → Bs ≤ k
  ab : ∀ d, d < 16 → ∀ k, (va d).ownBlock = some k → Bs ≤ k
  rr : ∀ d d' k, d < 16 → d' < 16 → (vr d).ownBlock = some k → (vr d').ownBlock = some k → d = d'
  aa : ∀ d d' k, d < 16 → d' < 16 → (va d).ownBlock = some k → (va d').ownBlock = some k → d = d'
  ra : ∀ d d' k, d < 16 → d' < 16 → (vr d).ownBlock = some k → (va d').ownBlock = some k → False
theorem setCells_size (b : Nat) : ∀ (vs : List Value) (w : World) (o : Nat), (w.setCells b o vs).heap.size = w.heap.size
  | [], _, _ => rfl
  | v :: r, w, o => by
    rw [World.setCells, setCells_size b r]
    simp [go_sem]
theorem results_cell {P : Program} {fn : Func} {tmps : Array Value} {w : World} {a : Nat} {t : TypeId} {ad : Addr} {v : Value} (hr : fn.results = #[.cell a t]) (ha : tmps[a]?.getD undef = .pointer (some ad)) (hl : (loadVar t ad).run P w = .ok v w) : (results fn tmps).run P w = .ok v w := by
  unfold results
  rw [hr]
  simp [ha, asAddr, hl]
theorem own_up {w : World} {B B' e s n : Nat} {v : Value} {xs : List Value} (h : w.ownsRow B e s v n xs) (hb : ∀ k, v.ownBlock = some k → B' ≤ k) : w.ownsRow B' e s v n xs := by
  obtain ⟨h1, ⟨e1, e2⟩ | ⟨g, cap, cur, e1, h2, h3⟩⟩ := h
  · exact ⟨h1, .inl ⟨e1, e2⟩⟩
  · exact ⟨h1, .inr ⟨g, cap, cur, e1, hb g (by rw [e1]; rfl), h3⟩⟩
set_option linter.unusedSimpArgs false in
set_option maxRecDepth 100000 in
set_option maxHeartbeats 8000000 in
/-- configm.Net.Copy -/
theorem copy_any (w : World) (M : MN) (vr va : Nat → Value) (h : MV w M vr va) (hok : MOk M) : Calls Try.prog 70 #[.agg (mnC M vr va).toArray] w (fun e w' => ∃ ur ua, e = .returned (.agg (mnC M ur ua).toArray) ∧ Ex (fun _ => False) w w' ∧ MW w' w.heap.size M ur ua) := by
  have HLN := hide (mnC_len M vr va)
  have HON := hide h.one
  have HRG : Hid ((w.alloc (.cells (mnC M vr va).toArray 34)).rangeAt w.heap.size 0 (mnC M vr va)) := fun j u hj => by
    have := new_cells w (mnC M vr va) 34 j u hj
    rwa [Addr.add_mid] at this
  have HMV := hide h
  obtain ⟨cs, hcs⟩ : ∃ cs, mnC M vr va = cs := ⟨_, rfl⟩
  rw [hcs] at HLN HON HRG ⊢
  have HCS := hide hcs
  clear hcs h
  have hE0 : Ex (fun _ => False) w ((w.alloc (.cells cs.toArray 34)).alloc (.cells Try.zeroCells34 34)) := ((Ex.refl _ w).alloc _).alloc _
  have hT0 : ((w.alloc (.cells cs.toArray 34)).alloc (.cells Try.zeroCells34 34)).there (w.heap.size + 1) 0 304 := by
    have := new_there (w.alloc (.cells cs.toArray 34)) Try.zeroCells34 34 304 Try.zs34
    rwa [show (w.alloc (.cells cs.toArray 34)).heap.size = w.heap.size + 1 by simp [go_sem]] at this
  have hS0 : ((w.alloc (.cells cs.toArray 34)).alloc (.cells Try.zeroCells34 34)).heap.size = w.heap.size + 2 := by simp [go_sem]
  have hR0 : ((w.alloc (.cells cs.toArray 34)).alloc (.cells Try.zeroCells34 34)).rangeAt w.heap.size 0 cs := fun j u hj => ((Ex.refl (fun _ => False) _).alloc _).cell (fun e => e) (HRG.out j u hj)
  go_enter Try.func70, Try.ntmps70
  go_upto_region 1 with fail
  generalize (w.alloc (.cells cs.toArray 34)).alloc (.cells Try.zeroCells34 34) = W0 at *
  clear HRG
  obtain ⟨r, hr⟩ : ∃ r, w.heap.size = r := ⟨_, rfl⟩
  have HR := hide hr
  rw [hr] at hT0 hS0 hR0
  rw [hr]
  have HS0 := hide hS0
  clear hr hS0
  refine wp_region_lit ?_
  refine wpL_load rfl 34 (.tmp 1) rfl r 0 rfl cs _ hR0 Try.underlying34 rfl (by rw [HLN.out]; exact Try.sz34) ?_
  try simp only [Act.put, List.getElem_toArray, List.getElem_cons_zero, List.getElem_cons_succ, List.setIfInBounds_toArray, List.set_cons_zero, List.set_cons_succ]
  refine wpList_plain rfl (fun K hK => ?_)
  go_simp
  refine hK _ _ ?_
  clear hK K
  try simp only [Act.put, List.getElem_toArray, List.getElem_cons_zero, List.getElem_cons_succ, List.setIfInBounds_toArray, List.set_cons_zero, List.set_cons_succ]
  refine wpL_store rfl 34 (.tmp 3) (.tmp 7) rfl W0.heap.size 0 cs rfl rfl (by rw [HLN.out]; exact new_there _ _ _ _ Try.zs34) (by rw [HLN.out]; exact Try.sz34) HON.out ?_
  try simp only [Act.put, List.getElem_toArray, List.getElem_cons_zero, List.getElem_cons_succ, List.setIfInBounds_toArray, List.set_cons_zero, List.set_cons_succ]
  refine wpList_nil ?_
  have EA : Ex (fun _ => False) W0 ((W0.alloc (.cells Try.zeroCells34 34)).setCells W0.heap.size 0 cs) := ((Ex.refl _ W0).alloc _).trans2 (Ex.sets (S := fun k => k = W0.heap.size) (p := W0.heap.size) rfl _ _ _ (Ex.refl _ _)) (fun k hk => .inr (by omega))
  have hX0 : ((W0.alloc (.cells Try.zeroCells34 34)).setCells W0.heap.size 0 cs).rangeAt W0.heap.size 0 cs := World.rangeAt_setCells_same _ _ 0 cs (by rw [HLN.out]; exact new_there _ _ _ _ Try.zs34)
  have hF0 : ∀ j, ((W0.alloc (.cells Try.zeroCells34 34)).setCells W0.heap.size 0 cs).frozen? ⟨W0.heap.size, j, none⟩ = false := fun j => by rw [World.frozen?_setCells]; simp [go_sem]
  have hSz : ((W0.alloc (.cells Try.zeroCells34 34)).setCells W0.heap.size 0 cs).heap.size = r + 3 := by
    have := HS0.out
    rw [setCells_size]
    simp [go_sem]
    omega
  have hS0 := HS0.out
  clear HS0
  generalize (W0.alloc (.cells Try.zeroCells34 34)).setCells W0.heap.size 0 cs = W2 at *
  obtain ⟨p, hp⟩ : ∃ p, W0.heap.size = p := ⟨_, rfl⟩
  rw [hp] at hX0 hF0 hS0
  rw [hp]
  have hrp : ¬ r = p := by omega
  have hrp1 : ¬ r + 1 = p := by omega
  have hrp2 : r + 1 < p := by omega
  have hrp3 : p < r + 3 := by omega
  have HEW : Hid (Ex (fun _ => False) w W2) := hE0.trans EA
  have HBX : Hid (MA W2 r 0 M vr va) := by
    refine (HMV.out.new HEW.out).ma ?_
    rw [HCS.out]
    exact fun j u hj => EA.cell (fun e => e) (hR0 j u hj)
  have HTR : Hid (W2.there (r + 1) 0 304) := there_keep (S := fun _ => False) hT0 EA (fun e => e)
  have HX0 : Hid (MXn W2 p (r + 3) 0 M vr va) := by
    refine ⟨(HMV.out.new HEW.out).ma (by rw [HCS.out]; exact hX0), hF0, by omega, fun d hd => absurd hd (Nat.not_lt_zero d), fun d hd => absurd hd (Nat.not_lt_zero d), fun d _ _ hd => absurd hd (Nat.not_lt_zero d), fun d _ _ hd => absurd hd (Nat.not_lt_zero d), fun d _ _ hd => absurd hd (Nat.not_lt_zero d), fun d _ hd k hk => ?_, fun d _ hd k hk => ?_⟩
    · have := ((HMV.out.ro d hd).lt k hk).2; rw [HR.out] at this; omega
    · have := ((HMV.out.ao d hd).lt k hk).2; rw [HR.out] at this; omega
  have HROW : Hid (∀ d, d < 16 → (∀ k, (vr d).ownBlock = some k → k < r) ∧ ∀ k, (va d).ownBlock = some k → k < r) := fun d hd => ⟨fun k hk => by have := ((HMV.out.ro d hd).lt k hk).2; rwa [HR.out] at this, fun k hk => by have := ((HMV.out.ao d hd).lt k hk).2; rwa [HR.out] at this⟩
  have HSZ := hide hSz
  clear hE0 hT0 EA hX0 hF0 hSz hR0 HON HLN HMV hS0 hp
  obtain ⟨i1, hi, hz0, hz1, hz2⟩ := info_parts Try.inf77
  have HI := hide (And.intro hi (And.intro hz0 (And.intro hz1 hz2)))
  clear hi hz0 hz1 hz2
  obtain ⟨i2, hi, hz0, hz1, hz2⟩ := info_parts Try.inf81
  have HJ := hide (And.intro hi (And.intro hz0 (And.intro hz1 hz2)))
  clear hi hz0 hz1 hz2
  generalize Value.agg cs.toArray = AV at *
  go_wp2_with fail
  go_loopw [4] (fun s4 wr => ∃ (D : Nat) (ur ua : Nat → Value), s4 = .int .i64 D ∧ D ≤ 16 ∧ Hid (MXn wr p (r + 3) D M ur ua) ∧ Hid (Ex (fun k => k = p) W2 wr)) (fun s4 _ => 16 - (intOf s4).toNat)
  case atStart => exact ⟨0, vr, va, rfl, by omega, HX0, Ex.refl _ _⟩
  case round =>
    clear HX0
    obtain ⟨D, ur, ua, rfl, hD16, HX, HE⟩ := hrel
    by_cases hD : D < 16
    · have hdb : decide ((D : Int) < 16) = true := decide_eq_true (by omega)
      have hdi : (D : Int) < 16 := by omega
      have k1 := HX.out.ma.r D hD
      have k2 := HX.out.ma.a D hD
      have kf := HX.out.fz
      rw [Nat.zero_add] at k1 k2
      have k3 : (wr.setCell ⟨p, D, none⟩ (.slice none 0 0)).cell? ⟨p, 16 + D, none⟩ = some (ua D) := by
        rw [set_at _ _ _ _ _ _ k1, if_neg (by omega)]; exact k2
      have HX1 := hide (HX.out.nil hD)
      rw [Nat.zero_add] at HX1
      have HE1 : Hid (Ex (fun k => k = p) W2 ((wr.setCell ⟨p, D, none⟩ (.slice none 0 0)).setCell ⟨p, 16 + D, none⟩ (.slice none 0 0))) := (HE.out.set (p := p) rfl _).set (p := p) rfl _
      go_upto_region 7 with fail
      clear k1 k2 k3 kf HX HE
      generalize (wr.setCell ⟨p, D, none⟩ (.slice none 0 0)).setCell ⟨p, 16 + D, none⟩ (.slice none 0 0) = W5 at *
      generalize upd ur D (.slice none 0 0) = ur1 at *
      generalize upd ua D (.slice none 0 0) = ua1 at *
      clear wr ur ua
      go_wp2_with fail
      go_loopw [5] (fun s5 wr => ∃ (i : Nat) (ur2 ua2 : Nat → Value), s5 = .int .i64 i ∧ i ≤ (M.rt D).length ∧ Hid (MXn wr p (r + 3) (D + 1) { M with rt := upd M.rt D ((M.rt D).take i), ac := upd M.ac D [] } ur2 ua2) ∧ Hid (Ex (fun k => k = p) W2 wr)) (fun s5 _ => (M.rt D).length - (intOf s5).toNat)
      case atStart => exact ⟨0, _, _, rfl, Nat.zero_le _, HX1, HE1⟩
      case round =>
        clear HX1 HE1
        obtain ⟨i, ur2, ua2, rfl, hin, HX2, HE2⟩ := hrel
        have b1 := (HBX.out.r D hD)
        rw [Nat.zero_add] at b1
        have b1 := HE2.out.cell hrp b1
        obtain ⟨sa, sc, hv⟩ := own_len (HBX.out.ro D hD)
        have HO := hide (HBX.out.ro D hD)
        have HRB := hide (HROW.out D hD).1
        rw [hv] at b1 HO HRB
        clear hv
        have hl64 := hok D hD
        obtain ⟨L, hL⟩ : ∃ L, M.rt D = L := ⟨_, rfl⟩
        obtain ⟨n, hn⟩ : ∃ n, L.length = n := ⟨_, rfl⟩
        rw [hL] at HX2
        rw [hL, hn] at b1 HO hin hl64
        have HLM := hide hL
        have HNL := hide hn
        clear hL hn
        by_cases hi : i < n
        · have d1 : decide ((i : Int) < (n : Int)) = true := decide_eq_true (by omega)
          have hii : (i : Int) < (n : Int) := by omega
          obtain ⟨x, hx⟩ : ∃ x, L[i]? = some x := ⟨_, List.getElem?_eq_getElem (by rw [HNL.out]; exact hi)⟩
          obtain ⟨g, cc, hv⟩ := own_some HO.out (by omega)
          injection hv with hv1 hv2 hv3
          subst hv1
          have hgr : g < r := HRB.out g rfl
          have hgp : ¬ g = p := by omega
          have o1 := own_kept HO.out HE2.out (fun k hk (z : k = p) => by have := HRB.out k hk; omega)
          rw [← HNL.out] at o1
          obtain ⟨x0, x1, x2⟩ := rt_cells o1 rfl hx
          obtain ⟨Q, hQ⟩ : ∃ Q, L.take i = Q := ⟨_, rfl⟩
          have HQL : Hid (Q.length = i) := by show _ = _; rw [← hQ, List.length_take, HNL.out]; omega
          have HQS0 := hide (take_snoc hx)
          rw [hQ] at HX2
          rw [hQ] at HQS0
          clear o1 hx hv2 hv3 hQ
          obtain ⟨xpr, xln, xhp⟩ := x
          simp only [] at x0 x1 x2
          have HQS : Hid (L.take (i + 1) = Q ++ [⟨xpr, xln, xhp⟩]) := HQS0
          clear HQS0
          have nr := HX2.out.ma.r D hD
          have nf := HX2.out.fz
          have HQO := hide (HX2.out.ma.ro D hD)
          rw [Nat.zero_add] at nr
          have HTL : Hid (∀ k, (ur2 D).ownBlock = some k → r + 3 ≤ k) := fun k hk => HX2.out.rb D (by omega) k hk
          simp only [upd_same] at HQO
          rw [HQL.out] at HQO
          obtain ⟨qa, qc, hq⟩ := own_len HQO.out
          have HV := hide hq
          rw [hq] at nr HQO HTL
          clear hq
          have hrW : r < wr.heap.size := World.block_lt_of_cell? _ _ b1
          have hgW : g < wr.heap.size := World.block_lt_of_cell? _ _ x0
          have hpW : p < wr.heap.size := HX2.out.lt
          have HSW : Hid (r + 3 ≤ wr.heap.size) := by have := HE2.out.size; have := HSZ.out; show _ ≤ _; omega
          have HOB : Hid (wr.ownsRow (r + 3) 77 3 (.slice qa i qc) i (flatR Q)) := own_up HQO.out HTL.out
          have HOA : Hid ((wr.alloc (.cells #[.int .i64 xpr, .int .i64 xln, .int .i64 xhp] 77)).drew.ownsRow (r + 3) 77 3 (.slice qa i qc) i (flatR Q)) := own_kept HOB.out (((Ex.refl (fun _ => False) wr).alloc _).drew) (fun _ _ e => e)
          clear HOB
          have nra : (wr.alloc (.cells #[.int .i64 xpr, .int .i64 xln, .int .i64 xhp] 77)).drew.cell? ⟨p, D, none⟩ = some (.slice qa i qc) := (((Ex.refl (fun _ => False) wr).alloc _).drew).cell (fun e => e) nr
          have nfa : (wr.alloc (.cells #[.int .i64 xpr, .int .i64 xln, .int .i64 xhp] 77)).drew.frozen? ⟨p, D, none⟩ = false := ((((Ex.refl (fun _ => False) wr).alloc (.cells #[.int .i64 xpr, .int .i64 xln, .int .i64 xhp] 77)).drew).frozen (fun e => e) hpW).trans (nf _)
          have hpa : p < (wr.alloc (.cells #[.int .i64 xpr, .int .i64 xln, .int .i64 xhp] 77)).drew.heap.size := by simp [go_sem]; omega
          go_upto_region 10 with fail
          refine wp_region_held_drew (S := fun w' => w'.cell? ⟨r, D, none⟩ = some (.slice (some ⟨g, 0, none⟩) n sc) ∧ w'.cell? ⟨g, i * 3, none⟩ = some (.int .i64 xpr) ∧ w'.cell? ⟨g, i * 3 + 1, none⟩ = some (.int .i64 xln) ∧ w'.cell? ⟨g, i * 3 + 2, none⟩ = some (.int .i64 xhp)) (by kernel_rfl) (And.intro b1 (And.intro x0 (And.intro x1 x2))) (fun hHeld => ?_)
          refine wpAnyH_take (i := 0) (v := ?_) rfl (by kernel_rfl) (by kernel_rfl) (by kernel_rfl) (fun _ _ _ h => h) (Or.inl ⟨by rfl, ?_⟩) (by assumption) ?_
          rotate_left
          · (intro w hSw; (try dsimp only at hSw); go_simp; try (with_reducible rfl))
          try simp only [Act.put, List.getElem_toArray, List.getElem_cons_zero, List.getElem_cons_succ, List.setIfInBounds_toArray, List.set_cons_zero, List.set_cons_succ]
          refine wpAnyH_take (i := 1) (v := ?_) rfl (by kernel_rfl) (by kernel_rfl) (by kernel_rfl) (fun _ _ _ h => h) (Or.inl ⟨by rfl, ?_⟩) (by assumption) ?_
          rotate_left
          · (intro w hSw; (try dsimp only at hSw); go_simp; try (with_reducible rfl))
          try simp only [Act.put, List.getElem_toArray, List.getElem_cons_zero, List.getElem_cons_succ, List.setIfInBounds_toArray, List.set_cons_zero, List.set_cons_succ]
          refine wpAnyH_take (i := 2) (v := ?_) rfl (by kernel_rfl) (by kernel_rfl) (by kernel_rfl) (fun _ _ _ h => h) (Or.inl ⟨by rfl, ?_⟩) (by assumption) ?_
          rotate_left
          · (intro w hSw; (try dsimp only at hSw); go_simp; try (with_reducible rfl))
          try simp only [Act.put, List.getElem_toArray, List.getElem_cons_zero, List.getElem_cons_succ, List.setIfInBounds_toArray, List.set_cons_zero, List.set_cons_succ]
          refine wpAnyH_take (i := 3) (v := ?_) rfl (by kernel_rfl) (by kernel_rfl) (by kernel_rfl) (fun _ _ _ h => h) (Or.inl ⟨by rfl, ?_⟩) (by assumption) ?_
          rotate_left
          · (intro w hSw; (try dsimp only at hSw); go_simp; try (with_reducible rfl))
          try simp only [Act.put, List.getElem_toArray, List.getElem_cons_zero, List.getElem_cons_succ, List.setIfInBounds_toArray, List.set_cons_zero, List.set_cons_succ]
          refine wpAnyH_take (i := 5) (v := ?_) rfl (by kernel_rfl) (by kernel_rfl) (by kernel_rfl) (fun _ _ _ h => h) (Or.inl ⟨by rfl, ?_⟩) (by assumption) ?_
          rotate_left
          · (intro w hSw; (try dsimp only at hSw); go_simp; try (with_reducible rfl))
          try simp only [Act.put, List.getElem_toArray, List.getElem_cons_zero, List.getElem_cons_succ, List.setIfInBounds_toArray, List.set_cons_zero, List.set_cons_succ]
          refine wpAnyH_take (i := 6) (v := ?_) rfl (by kernel_rfl) (by kernel_rfl) (by kernel_rfl) (fun _ _ _ h => h) (Or.inl ⟨by rfl, ?_⟩) (by assumption) ?_
          rotate_left
          · (intro w hSw; (try dsimp only at hSw); go_simp; try (with_reducible rfl))
          try simp only [Act.put, List.getElem_toArray, List.getElem_cons_zero, List.getElem_cons_succ, List.setIfInBounds_toArray, List.set_cons_zero, List.set_cons_succ]
          refine wpAnyH_take (i := 7) (v := ?_) rfl (by kernel_rfl) (by kernel_rfl) (by kernel_rfl) (fun _ _ _ h => h) (Or.inl ⟨by rfl, ?_⟩) (by assumption) ?_
          rotate_left
          · (intro w hSw; (try dsimp only at hSw); go_simp; try (with_reducible rfl))
          try simp only [Act.put, List.getElem_toArray, List.getElem_cons_zero, List.getElem_cons_succ, List.setIfInBounds_toArray, List.set_cons_zero, List.set_cons_succ]
          refine wpAnyH_take (i := 8) (v := ?_) rfl (by kernel_rfl) (by kernel_rfl) (by kernel_rfl) (fun _ _ _ h => h) (Or.inl ⟨by rfl, ?_⟩) (by assumption) ?_
          rotate_left
          · (intro w hSw; (try dsimp only at hSw); go_simp; try (with_reducible rfl))
          try simp only [Act.put, List.getElem_toArray, List.getElem_cons_zero, List.getElem_cons_succ, List.setIfInBounds_toArray, List.set_cons_zero, List.set_cons_succ]
          refine wpAnyH_take (i := 9) (v := ?_) rfl (by kernel_rfl) (by kernel_rfl) (by kernel_rfl) (fun _ _ _ h => h) (Or.inl ⟨by rfl, ?_⟩) (by assumption) ?_
          rotate_left
          · (intro w hSw; (try dsimp only at hSw); go_simp; try (with_reducible rfl))
          try simp only [Act.put, List.getElem_toArray, List.getElem_cons_zero, List.getElem_cons_succ, List.setIfInBounds_toArray, List.set_cons_zero, List.set_cons_succ]
          refine wpAnyH_take (i := 10) (v := ?_) rfl (by kernel_rfl) (by kernel_rfl) (by kernel_rfl) (fun _ _ _ h => h) (Or.inl ⟨by rfl, ?_⟩) (by assumption) ?_
          rotate_left
          · (intro w hSw; (try dsimp only at hSw); go_simp; try (with_reducible rfl))
          try simp only [Act.put, List.getElem_toArray, List.getElem_cons_zero, List.getElem_cons_succ, List.setIfInBounds_toArray, List.set_cons_zero, List.set_cons_succ]
          refine wpAnyH_take (i := 11) (v := ?_) rfl (by kernel_rfl) (by kernel_rfl) (by kernel_rfl) (fun _ _ _ h => h) (Or.inl ⟨by rfl, ?_⟩) (by assumption) ?_
          rotate_left
          · (intro w hSw; (try dsimp only at hSw); go_simp; try (with_reducible rfl))
          try simp only [Act.put, List.getElem_toArray, List.getElem_cons_zero, List.getElem_cons_succ, List.setIfInBounds_toArray, List.set_cons_zero, List.set_cons_succ]
          refine wpAnyH_take (i := 14) (v := ?_) rfl (by kernel_rfl) (by kernel_rfl) (by kernel_rfl) (fun _ _ _ h => h) (Or.inl ⟨by rfl, ?_⟩) (by assumption) ?_
          rotate_left
          · (intro w hSw; (try dsimp only at hSw); go_simp; try (with_reducible rfl))
          try simp only [Act.put, List.getElem_toArray, List.getElem_cons_zero, List.getElem_cons_succ, List.setIfInBounds_toArray, List.set_cons_zero, List.set_cons_succ]
          refine wpAnyH_ready (rs := [4, 12]) (by kernel_rfl) (by simp) ?_
          refine (AllReadyH.cons rfl (fun K hK => ?_) (AllReadyH.cons rfl (fun K hK => ?_) AllReadyH.nil))
          · go_simp
            refine hK.out _ _ ?_ (fun hHeld => ?_)
            · first | exact hHeld | (simp [go_sem, b1, x0, x1, x2, hrW, hgW, Nat.ne_of_lt]; done) | exact ⟨hbg _ _ hHeld.1, hbh _ _ hHeld.2.1, hbh _ _ hHeld.2.2.1, hbh _ _ hHeld.2.2.2⟩ | exact ⟨(set_cell_ne _ _ _ _ _ _ hrp).trans hHeld.1, (set_cell_ne _ _ _ _ _ _ hgp).trans (hHeld.2.1), (set_cell_ne _ _ _ _ _ _ hgp).trans (hHeld.2.2.1), (set_cell_ne _ _ _ _ _ _ hgp).trans (hHeld.2.2.2)⟩
            clear hK K
            try simp only [Act.put, List.getElem_toArray, List.getElem_cons_zero, List.getElem_cons_succ, List.setIfInBounds_toArray, List.set_cons_zero, List.set_cons_succ]
            refine wpAnyH_ready (rs := [12]) (by kernel_rfl) (by simp) ?_
            refine (AllReadyH.cons rfl (fun K hK => ?_) AllReadyH.nil)
            · go_simp
              refine hK.out _ _ ?_ (fun hHeld => ?_)
              · first | exact hHeld | (simp [go_sem, b1, x0, x1, x2, hrW, hgW, Nat.ne_of_lt]; done) | exact ⟨hbg _ _ hHeld.1, hbh _ _ hHeld.2.1, hbh _ _ hHeld.2.2.1, hbh _ _ hHeld.2.2.2⟩ | exact ⟨(set_cell_ne _ _ _ _ _ _ hrp).trans hHeld.1, (set_cell_ne _ _ _ _ _ _ hgp).trans (hHeld.2.1), (set_cell_ne _ _ _ _ _ _ hgp).trans (hHeld.2.2.1), (set_cell_ne _ _ _ _ _ _ hgp).trans (hHeld.2.2.2)⟩
              clear hK K
              try simp only [Act.put, List.getElem_toArray, List.getElem_cons_zero, List.getElem_cons_succ, List.setIfInBounds_toArray, List.set_cons_zero, List.set_cons_succ]
              refine wpAnyH_ready (rs := [13]) (by kernel_rfl) (by simp) ?_
              refine (AllReadyH.cons rfl (fun K hK => ?_) AllReadyH.nil)
              · refine step_append_at rfl (.tmp 31) (.tmp 39) 27 rfl (r + 3) 77 i1 _ 3 24 Try.underlying27 HI.out.1 HI.out.2.1 HI.out.2.2.1 HI.out.2.2.2 rfl (by decide) (.slice qa i qc) i (flatR Q) rfl HOA.out ⟨wr.heap.size, 0, none⟩ 1 1 [.int .i64 xpr, .int .i64 xln, .int .i64 xhp] rfl rfl (fun j u hj => new_cells wr [.int .i64 xpr, .int .i64 xln, .int .i64 xhp] 77 j u hj) (fun u hu => rt_one [⟨xpr, xln, xhp⟩] u (by simpa [flatR, Rt.vals] using hu)) (by unfold maxLen; omega) (by omega) (by have := HSW.out; simp [go_sem]; omega) ?_
                intro v' w4 hown hgrow hat
                obtain ⟨sa4, sc4, rfl⟩ := own_len hown
                have HOW4 := hide hown
                have HGR := hide hgrow
                have HAT := hide hat
                have hpne : some p ≠ (Value.slice qa i qc).ownBlock := fun z => by have := (HTL.out p z.symm); omega
                have nr4 : w4.cell? ⟨p, D, none⟩ = some (.slice qa i qc) := hgrow.cell nra hpne
                have nf4 : w4.frozen? ⟨p, D, none⟩ = false := (hgrow.frozen_far ⟨p, D, none⟩ hpa hpne).trans nfa
                have hbg : ∀ j u, (wr.alloc (.cells #[.int .i64 xpr, .int .i64 xln, .int .i64 xhp] 77)).drew.cell? ⟨r, j, none⟩ = some u → w4.cell? ⟨r, j, none⟩ = some u := fun j u hj => hgrow.cell hj (fun z => by have := (HTL.out r z.symm); omega)
                have hbh : ∀ j u, (wr.alloc (.cells #[.int .i64 xpr, .int .i64 xln, .int .i64 xhp] 77)).drew.cell? ⟨g, j, none⟩ = some u → w4.cell? ⟨g, j, none⟩ = some u := fun j u hj => hgrow.cell hj (fun z => by have := (HTL.out g z.symm); omega)
                clear hown hgrow hat
                refine hK.out _ _ ?_ (fun hHeld => ?_)
                · first | exact hHeld | (simp [go_sem, b1, x0, x1, x2, hrW, hgW, Nat.ne_of_lt]; done) | exact ⟨hbg _ _ hHeld.1, hbh _ _ hHeld.2.1, hbh _ _ hHeld.2.2.1, hbh _ _ hHeld.2.2.2⟩ | exact ⟨(set_cell_ne _ _ _ _ _ _ hrp).trans hHeld.1, (set_cell_ne _ _ _ _ _ _ hgp).trans (hHeld.2.1), (set_cell_ne _ _ _ _ _ _ hgp).trans (hHeld.2.2.1), (set_cell_ne _ _ _ _ _ _ hgp).trans (hHeld.2.2.2)⟩
                clear hK K
                try simp only [Act.put, List.getElem_toArray, List.getElem_cons_zero, List.getElem_cons_succ, List.setIfInBounds_toArray, List.set_cons_zero, List.set_cons_succ]
                refine wpAnyH_take (i := 15) (v := ?_) rfl (by kernel_rfl) (by kernel_rfl) (by kernel_rfl) (fun _ _ _ h => h) (Or.inl ⟨by rfl, ?_⟩) (by assumption) ?_
                rotate_left
                · (intro w hSw; (try dsimp only at hSw); go_simp; try (with_reducible rfl))
                try simp only [Act.put, List.getElem_toArray, List.getElem_cons_zero, List.getElem_cons_succ, List.setIfInBounds_toArray, List.set_cons_zero, List.set_cons_succ]
                refine wpAnyH_ready (rs := [16]) (by kernel_rfl) (by simp) ?_
                refine (AllReadyH.cons rfl (fun K hK => ?_) AllReadyH.nil)
                · go_simp
                  refine hK.out _ _ ?_ (fun hHeld => ?_)
                  · first | exact hHeld | (simp [go_sem, b1, x0, x1, x2, hrW, hgW, Nat.ne_of_lt]; done) | exact ⟨hbg _ _ hHeld.1, hbh _ _ hHeld.2.1, hbh _ _ hHeld.2.2.1, hbh _ _ hHeld.2.2.2⟩ | exact ⟨(set_cell_ne _ _ _ _ _ _ hrp).trans hHeld.1, (set_cell_ne _ _ _ _ _ _ hgp).trans (hHeld.2.1), (set_cell_ne _ _ _ _ _ _ hgp).trans (hHeld.2.2.1), (set_cell_ne _ _ _ _ _ _ hgp).trans (hHeld.2.2.2)⟩
                  clear hK K
                  try simp only [Act.put, List.getElem_toArray, List.getElem_cons_zero, List.getElem_cons_succ, List.setIfInBounds_toArray, List.set_cons_zero, List.set_cons_succ]
                  refine wpAnyH_done (by kernel_rfl) ?_ _
                  have HXG : Hid (MXn (w4.setCell ⟨p, D, none⟩ (.slice sa4 (i + 1) sc4)) p (r + 3) (D + 1) { M with rt := upd M.rt D (L.take (i + 1)), ac := upd M.ac D [] } (upd ur2 D (.slice sa4 (i + 1) sc4)) ua2) := by
                    have h1 := (HX2.out.new (((Ex.refl (fun _ => False) wr).alloc (.cells #[.int .i64 xpr, .int .i64 xln, .int .i64 xhp] 77)).drew)).setR (d := D) (by omega) (by omega) (Ex.ofGrown HGR.out (fun k hk => by rw [HV.out]; exact hk)) (L := Q ++ [⟨xpr, xln, xhp⟩]) (v := .slice sa4 (i + 1) sc4) (by
                      rw [show (Q ++ [(⟨xpr, xln, xhp⟩ : Rt)]).length = i + 1 by rw [List.length_append, HQL.out]; rfl, flatR_snoc]
                      exact own_low HOW4.out (Nat.zero_le _)) (fun k hk => by
                      rw [HV.out]
                      rcases HAT.out with z | z
                      · left; rw [← hk]; exact z.symm
                      · right
                        rw [hk] at z
                        injection z with z
                        rw [z]
                        exact Nat.le_refl _) (by have := HSW.out; simp [go_sem]; omega)
                    rw [Nat.zero_add] at h1
                    refine h1.ext ?_
                    simp only [upd_upd]
                    rw [← HQS.out]
                  have HEF : Hid (Ex (fun k => k = p) W2 (w4.setCell ⟨p, D, none⟩ (.slice sa4 (i + 1) sc4))) := (((HE2.out.alloc (.cells #[.int .i64 xpr, .int .i64 xln, .int .i64 xhp] 77)).drew.trans2 (Ex.ofGrown (S := fun k => (Value.slice qa i qc).ownBlock = some k) HGR.out (fun k hk => hk.symm)) (fun k hk => .inr (by have := HTL.out k hk; have := HSZ.out; omega)))).set (p := p) rfl _
                  clear HGR HOW4 HAT nr4 nf4 nr nra nf nfa HOA HO hbg hbh b1 x0 x1 x2 HX2 HE2 hHeld HQS HQL HV HQO hpa HTL
                  generalize w4.setCell ⟨p, D, none⟩ (.slice sa4 (i + 1) sc4) = W9 at *
                  rw [← HLM.out] at HXG
                  have HNM : Hid ((M.rt D).length = n) := by show _ = _; rw [HLM.out]; exact HNL.out
                  go_wp2
                  go_roundw
                  case rel => exact ⟨i + 1, _, _, by go_num, by rw [HNM.out]; omega, HXG, HEF⟩
                  case measure => (simp [intOf]; rw [HNM.out]; omega)
          · go_simp
            refine hK.out _ _ ?_ (fun hHeld => ?_)
            · first | exact hHeld | (simp [go_sem, b1, x0, x1, x2, hrW, hgW, Nat.ne_of_lt]; done) | exact ⟨hbg _ _ hHeld.1, hbh _ _ hHeld.2.1, hbh _ _ hHeld.2.2.1, hbh _ _ hHeld.2.2.2⟩ | exact ⟨(set_cell_ne _ _ _ _ _ _ hrp).trans hHeld.1, (set_cell_ne _ _ _ _ _ _ hgp).trans (hHeld.2.1), (set_cell_ne _ _ _ _ _ _ hgp).trans (hHeld.2.2.1), (set_cell_ne _ _ _ _ _ _ hgp).trans (hHeld.2.2.2)⟩
            clear hK K
            try simp only [Act.put, List.getElem_toArray, List.getElem_cons_zero, List.getElem_cons_succ, List.setIfInBounds_toArray, List.set_cons_zero, List.set_cons_succ]
            refine wpAnyH_ready (rs := [4]) (by kernel_rfl) (by simp) ?_
            refine (AllReadyH.cons rfl (fun K hK => ?_) AllReadyH.nil)
            · go_simp
              refine hK.out _ _ ?_ (fun hHeld => ?_)
              · first | exact hHeld | (simp [go_sem, b1, x0, x1, x2, hrW, hgW, Nat.ne_of_lt]; done) | exact ⟨hbg _ _ hHeld.1, hbh _ _ hHeld.2.1, hbh _ _ hHeld.2.2.1, hbh _ _ hHeld.2.2.2⟩ | exact ⟨(set_cell_ne _ _ _ _ _ _ hrp).trans hHeld.1, (set_cell_ne _ _ _ _ _ _ hgp).trans (hHeld.2.1), (set_cell_ne _ _ _ _ _ _ hgp).trans (hHeld.2.2.1), (set_cell_ne _ _ _ _ _ _ hgp).trans (hHeld.2.2.2)⟩
              clear hK K
              try simp only [Act.put, List.getElem_toArray, List.getElem_cons_zero, List.getElem_cons_succ, List.setIfInBounds_toArray, List.set_cons_zero, List.set_cons_succ]
              refine wpAnyH_ready (rs := [13]) (by kernel_rfl) (by simp) ?_
              refine (AllReadyH.cons rfl (fun K hK => ?_) AllReadyH.nil)
              · refine step_append_at rfl (.tmp 31) (.tmp 39) 27 rfl (r + 3) 77 i1 _ 3 24 Try.underlying27 HI.out.1 HI.out.2.1 HI.out.2.2.1 HI.out.2.2.2 rfl (by decide) (.slice qa i qc) i (flatR Q) rfl HOA.out ⟨wr.heap.size, 0, none⟩ 1 1 [.int .i64 xpr, .int .i64 xln, .int .i64 xhp] rfl rfl (fun j u hj => new_cells wr [.int .i64 xpr, .int .i64 xln, .int .i64 xhp] 77 j u hj) (fun u hu => rt_one [⟨xpr, xln, xhp⟩] u (by simpa [flatR, Rt.vals] using hu)) (by unfold maxLen; omega) (by omega) (by have := HSW.out; simp [go_sem]; omega) ?_
                intro v' w4 hown hgrow hat
                obtain ⟨sa4, sc4, rfl⟩ := own_len hown
                have HOW4 := hide hown
                have HGR := hide hgrow
                have HAT := hide hat
                have hpne : some p ≠ (Value.slice qa i qc).ownBlock := fun z => by have := (HTL.out p z.symm); omega
                have nr4 : w4.cell? ⟨p, D, none⟩ = some (.slice qa i qc) := hgrow.cell nra hpne
                have nf4 : w4.frozen? ⟨p, D, none⟩ = false := (hgrow.frozen_far ⟨p, D, none⟩ hpa hpne).trans nfa
                have hbg : ∀ j u, (wr.alloc (.cells #[.int .i64 xpr, .int .i64 xln, .int .i64 xhp] 77)).drew.cell? ⟨r, j, none⟩ = some u → w4.cell? ⟨r, j, none⟩ = some u := fun j u hj => hgrow.cell hj (fun z => by have := (HTL.out r z.symm); omega)
                have hbh : ∀ j u, (wr.alloc (.cells #[.int .i64 xpr, .int .i64 xln, .int .i64 xhp] 77)).drew.cell? ⟨g, j, none⟩ = some u → w4.cell? ⟨g, j, none⟩ = some u := fun j u hj => hgrow.cell hj (fun z => by have := (HTL.out g z.symm); omega)
                clear hown hgrow hat
                refine hK.out _ _ ?_ (fun hHeld => ?_)
                · first | exact hHeld | (simp [go_sem, b1, x0, x1, x2, hrW, hgW, Nat.ne_of_lt]; done) | exact ⟨hbg _ _ hHeld.1, hbh _ _ hHeld.2.1, hbh _ _ hHeld.2.2.1, hbh _ _ hHeld.2.2.2⟩ | exact ⟨(set_cell_ne _ _ _ _ _ _ hrp).trans hHeld.1, (set_cell_ne _ _ _ _ _ _ hgp).trans (hHeld.2.1), (set_cell_ne _ _ _ _ _ _ hgp).trans (hHeld.2.2.1), (set_cell_ne _ _ _ _ _ _ hgp).trans (hHeld.2.2.2)⟩
                clear hK K
                try simp only [Act.put, List.getElem_toArray, List.getElem_cons_zero, List.getElem_cons_succ, List.setIfInBounds_toArray, List.set_cons_zero, List.set_cons_succ]
                refine wpAnyH_take (i := 15) (v := ?_) rfl (by kernel_rfl) (by kernel_rfl) (by kernel_rfl) (fun _ _ _ h => h) (Or.inl ⟨by rfl, ?_⟩) (by assumption) ?_
                rotate_left
                · (intro w hSw; (try dsimp only at hSw); go_simp; try (with_reducible rfl))
                try simp only [Act.put, List.getElem_toArray, List.getElem_cons_zero, List.getElem_cons_succ, List.setIfInBounds_toArray, List.set_cons_zero, List.set_cons_succ]
                refine wpAnyH_ready (rs := [16]) (by kernel_rfl) (by simp) ?_
                refine (AllReadyH.cons rfl (fun K hK => ?_) AllReadyH.nil)
                · go_simp
                  refine hK.out _ _ ?_ (fun hHeld => ?_)
                  · first | exact hHeld | (simp [go_sem, b1, x0, x1, x2, hrW, hgW, Nat.ne_of_lt]; done) | exact ⟨hbg _ _ hHeld.1, hbh _ _ hHeld.2.1, hbh _ _ hHeld.2.2.1, hbh _ _ hHeld.2.2.2⟩ | exact ⟨(set_cell_ne _ _ _ _ _ _ hrp).trans hHeld.1, (set_cell_ne _ _ _ _ _ _ hgp).trans (hHeld.2.1), (set_cell_ne _ _ _ _ _ _ hgp).trans (hHeld.2.2.1), (set_cell_ne _ _ _ _ _ _ hgp).trans (hHeld.2.2.2)⟩
                  clear hK K
                  try simp only [Act.put, List.getElem_toArray, List.getElem_cons_zero, List.getElem_cons_succ, List.setIfInBounds_toArray, List.set_cons_zero, List.set_cons_succ]
                  refine wpAnyH_done (by kernel_rfl) ?_ _
                  have HXG : Hid (MXn (w4.setCell ⟨p, D, none⟩ (.slice sa4 (i + 1) sc4)) p (r + 3) (D + 1) { M with rt := upd M.rt D (L.take (i + 1)), ac := upd M.ac D [] } (upd ur2 D (.slice sa4 (i + 1) sc4)) ua2) := by
                    have h1 := (HX2.out.new (((Ex.refl (fun _ => False) wr).alloc (.cells #[.int .i64 xpr, .int .i64 xln, .int .i64 xhp] 77)).drew)).setR (d := D) (by omega) (by omega) (Ex.ofGrown HGR.out (fun k hk => by rw [HV.out]; exact hk)) (L := Q ++ [⟨xpr, xln, xhp⟩]) (v := .slice sa4 (i + 1) sc4) (by
                      rw [show (Q ++ [(⟨xpr, xln, xhp⟩ : Rt)]).length = i + 1 by rw [List.length_append, HQL.out]; rfl, flatR_snoc]
                      exact own_low HOW4.out (Nat.zero_le _)) (fun k hk => by
                      rw [HV.out]
                      rcases HAT.out with z | z
                      · left; rw [← hk]; exact z.symm
                      · right
                        rw [hk] at z
                        injection z with z
                        rw [z]
                        exact Nat.le_refl _) (by have := HSW.out; simp [go_sem]; omega)
                    rw [Nat.zero_add] at h1
                    refine h1.ext ?_
                    simp only [upd_upd]
                    rw [← HQS.out]
                  have HEF : Hid (Ex (fun k => k = p) W2 (w4.setCell ⟨p, D, none⟩ (.slice sa4 (i + 1) sc4))) := (((HE2.out.alloc (.cells #[.int .i64 xpr, .int .i64 xln, .int .i64 xhp] 77)).drew.trans2 (Ex.ofGrown (S := fun k => (Value.slice qa i qc).ownBlock = some k) HGR.out (fun k hk => hk.symm)) (fun k hk => .inr (by have := HTL.out k hk; have := HSZ.out; omega)))).set (p := p) rfl _
                  clear HGR HOW4 HAT nr4 nf4 nr nra nf nfa HOA HO hbg hbh b1 x0 x1 x2 HX2 HE2 hHeld HQS HQL HV HQO hpa HTL
                  generalize w4.setCell ⟨p, D, none⟩ (.slice sa4 (i + 1) sc4) = W9 at *
                  rw [← HLM.out] at HXG
                  have HNM : Hid ((M.rt D).length = n) := by show _ = _; rw [HLM.out]; exact HNL.out
                  go_wp2
                  go_roundw
                  case rel => exact ⟨i + 1, _, _, by go_num, by rw [HNM.out]; omega, HXG, HEF⟩
                  case measure => (simp [intOf]; rw [HNM.out]; omega)
        · obtain rfl : i = n := by omega
          have d1 : decide ((i : Int) < (i : Int)) = false := decide_eq_false (by omega)
          have HX3 : Hid (MXn wr p (r + 3) (D + 1) { M with rt := upd M.rt D (M.rt D), ac := upd M.ac D ((M.ac D).take 0) } ur2 ua2) := by
            refine HX2.out.ext ?_
            rw [List.take_of_length_le (by rw [HNL.out]; exact Nat.le_refl _), HLM.out]
            rfl
          have HE3 := HE2
          clear HX2 HE2 HO HRB hl64 HLM HNL hin
          go_wp2_with fail
          go_loopw [6] (fun s6 wr => ∃ (i : Nat) (ur2 ua2 : Nat → Value), s6 = .int .i64 i ∧ i ≤ (M.ac D).length ∧ Hid (MXn wr p (r + 3) (D + 1) { M with rt := upd M.rt D (M.rt D), ac := upd M.ac D ((M.ac D).take i) } ur2 ua2) ∧ Hid (Ex (fun k => k = p) W2 wr)) (fun s6 _ => (M.ac D).length - (intOf s6).toNat)
          case atStart => exact ⟨0, _, _, rfl, Nat.zero_le _, HX3, HE3⟩
          case round =>
            clear HX3 HE3
            obtain ⟨i, ur2, ua2, rfl, hin, HX2, HE2⟩ := hrel
            have b1 := (HBX.out.a D hD)
            rw [Nat.zero_add] at b1
            have b1 := HE2.out.cell hrp b1
            obtain ⟨sa, sc, hv⟩ := own_len (HBX.out.ao D hD)
            have HO := hide (HBX.out.ao D hD)
            have HRB := hide (HROW.out D hD).2
            rw [hv] at b1 HO HRB
            clear hv
            have hl64 := hok D hD
            obtain ⟨L, hL⟩ : ∃ L, M.ac D = L := ⟨_, rfl⟩
            obtain ⟨n, hn⟩ : ∃ n, L.length = n := ⟨_, rfl⟩
            rw [hL] at HX2
            rw [hL, hn] at b1 HO hin hl64
            have HLM := hide hL
            have HNL := hide hn
            clear hL hn
            by_cases hi : i < n
            · have d1 : decide ((i : Int) < (n : Int)) = true := decide_eq_true (by omega)
              have hii : (i : Int) < (n : Int) := by omega
              obtain ⟨x, hx⟩ : ∃ x, L[i]? = some x := ⟨_, List.getElem?_eq_getElem (by rw [HNL.out]; exact hi)⟩
              obtain ⟨g, cc, hv⟩ := own_some HO.out (by omega)
              injection hv with hv1 hv2 hv3
              subst hv1
              have hgr : g < r := HRB.out g rfl
              have hgp : ¬ g = p := by omega
              have o1 := own_kept HO.out HE2.out (fun k hk (z : k = p) => by have := HRB.out k hk; omega)
              rw [← HNL.out] at o1
              obtain ⟨x0, x1, x2, x3⟩ := rl_cells o1 rfl hx
              obtain ⟨Q, hQ⟩ : ∃ Q, L.take i = Q := ⟨_, rfl⟩
              have HQL : Hid (Q.length = i) := by show _ = _; rw [← hQ, List.length_take, HNL.out]; omega
              have HQS0 := hide (take_snoc hx)
              rw [hQ] at HX2
              rw [hQ] at HQS0
              clear o1 hx hv2 hv3 hQ
              obtain ⟨xpm, xpr, xln, xcl⟩ := x
              simp only [] at x0 x1 x2 x3
              have HQS : Hid (L.take (i + 1) = Q ++ [⟨xpm, xpr, xln, xcl⟩]) := HQS0
              clear HQS0
              have nr := HX2.out.ma.a D hD
              have nf := HX2.out.fz
              have HQO := hide (HX2.out.ma.ao D hD)
              rw [Nat.zero_add] at nr
              have HTL : Hid (∀ k, (ua2 D).ownBlock = some k → r + 3 ≤ k) := fun k hk => HX2.out.ab D (by omega) k hk
              simp only [upd_same] at HQO
              rw [HQL.out] at HQO
              obtain ⟨qa, qc, hq⟩ := own_len HQO.out
              have HV := hide hq
              rw [hq] at nr HQO HTL
              clear hq
              have hrW : r < wr.heap.size := World.block_lt_of_cell? _ _ b1
              have hgW : g < wr.heap.size := World.block_lt_of_cell? _ _ x0
              have hpW : p < wr.heap.size := HX2.out.lt
              have HSW : Hid (r + 3 ≤ wr.heap.size) := by have := HE2.out.size; have := HSZ.out; show _ ≤ _; omega
              have HOB : Hid (wr.ownsRow (r + 3) 81 4 (.slice qa i qc) i (flatA Q)) := own_up HQO.out HTL.out
              have HOA : Hid ((wr.alloc (.cells #[.bool xpm, .int .i64 xpr, .int .i64 xln, .int .i64 xcl] 81)).drew.ownsRow (r + 3) 81 4 (.slice qa i qc) i (flatA Q)) := own_kept HOB.out (((Ex.refl (fun _ => False) wr).alloc _).drew) (fun _ _ e => e)
              clear HOB
              have nra : (wr.alloc (.cells #[.bool xpm, .int .i64 xpr, .int .i64 xln, .int .i64 xcl] 81)).drew.cell? ⟨p, 16 + D, none⟩ = some (.slice qa i qc) := (((Ex.refl (fun _ => False) wr).alloc _).drew).cell (fun e => e) nr
              have nfa : (wr.alloc (.cells #[.bool xpm, .int .i64 xpr, .int .i64 xln, .int .i64 xcl] 81)).drew.frozen? ⟨p, 16 + D, none⟩ = false := ((((Ex.refl (fun _ => False) wr).alloc (.cells #[.bool xpm, .int .i64 xpr, .int .i64 xln, .int .i64 xcl] 81)).drew).frozen (fun e => e) hpW).trans (nf _)
              have hpa : p < (wr.alloc (.cells #[.bool xpm, .int .i64 xpr, .int .i64 xln, .int .i64 xcl] 81)).drew.heap.size := by simp [go_sem]; omega
              go_upto_region 14 with fail
              refine wp_region_held_drew (S := fun w' => w'.cell? ⟨r, 16 + D, none⟩ = some (.slice (some ⟨g, 0, none⟩) n sc) ∧ w'.cell? ⟨g, i * 4, none⟩ = some (.bool xpm) ∧ w'.cell? ⟨g, i * 4 + 1, none⟩ = some (.int .i64 xpr) ∧ w'.cell? ⟨g, i * 4 + 2, none⟩ = some (.int .i64 xln) ∧ w'.cell? ⟨g, i * 4 + 3, none⟩ = some (.int .i64 xcl)) (by kernel_rfl) (And.intro b1 (And.intro x0 (And.intro x1 (And.intro x2 x3)))) (fun hHeld => ?_)
              refine wpAnyH_take (i := 0) (v := ?_) rfl (by kernel_rfl) (by kernel_rfl) (by kernel_rfl) (fun _ _ _ h => h) (Or.inl ⟨by rfl, ?_⟩) (by assumption) ?_
              rotate_left
              · (intro w hSw; (try dsimp only at hSw); go_simp; try (with_reducible rfl))
              try simp only [Act.put, List.getElem_toArray, List.getElem_cons_zero, List.getElem_cons_succ, List.setIfInBounds_toArray, List.set_cons_zero, List.set_cons_succ]
              refine wpAnyH_take (i := 1) (v := ?_) rfl (by kernel_rfl) (by kernel_rfl) (by kernel_rfl) (fun _ _ _ h => h) (Or.inl ⟨by rfl, ?_⟩) (by assumption) ?_
              rotate_left
              · (intro w hSw; (try dsimp only at hSw); go_simp; try (with_reducible rfl))
              try simp only [Act.put, List.getElem_toArray, List.getElem_cons_zero, List.getElem_cons_succ, List.setIfInBounds_toArray, List.set_cons_zero, List.set_cons_succ]
              refine wpAnyH_take (i := 2) (v := ?_) rfl (by kernel_rfl) (by kernel_rfl) (by kernel_rfl) (fun _ _ _ h => h) (Or.inl ⟨by rfl, ?_⟩) (by assumption) ?_
              rotate_left
              · (intro w hSw; (try dsimp only at hSw); go_simp; try (with_reducible rfl))
              try simp only [Act.put, List.getElem_toArray, List.getElem_cons_zero, List.getElem_cons_succ, List.setIfInBounds_toArray, List.set_cons_zero, List.set_cons_succ]
              refine wpAnyH_take (i := 3) (v := ?_) rfl (by kernel_rfl) (by kernel_rfl) (by kernel_rfl) (fun _ _ _ h => h) (Or.inl ⟨by rfl, ?_⟩) (by assumption) ?_
              rotate_left
              · (intro w hSw; (try dsimp only at hSw); go_simp; try (with_reducible rfl))
              try simp only [Act.put, List.getElem_toArray, List.getElem_cons_zero, List.getElem_cons_succ, List.setIfInBounds_toArray, List.set_cons_zero, List.set_cons_succ]
              refine wpAnyH_take (i := 5) (v := ?_) rfl (by kernel_rfl) (by kernel_rfl) (by kernel_rfl) (fun _ _ _ h => h) (Or.inl ⟨by rfl, ?_⟩) (by assumption) ?_
              rotate_left
              · (intro w hSw; (try dsimp only at hSw); go_simp; try (with_reducible rfl))
              try simp only [Act.put, List.getElem_toArray, List.getElem_cons_zero, List.getElem_cons_succ, List.setIfInBounds_toArray, List.set_cons_zero, List.set_cons_succ]
              refine wpAnyH_take (i := 6) (v := ?_) rfl (by kernel_rfl) (by kernel_rfl) (by kernel_rfl) (fun _ _ _ h => h) (Or.inl ⟨by rfl, ?_⟩) (by assumption) ?_
              rotate_left
              · (intro w hSw; (try dsimp only at hSw); go_simp; try (with_reducible rfl))
              try simp only [Act.put, List.getElem_toArray, List.getElem_cons_zero, List.getElem_cons_succ, List.setIfInBounds_toArray, List.set_cons_zero, List.set_cons_succ]
              refine wpAnyH_take (i := 7) (v := ?_) rfl (by kernel_rfl) (by kernel_rfl) (by kernel_rfl) (fun _ _ _ h => h) (Or.inl ⟨by rfl, ?_⟩) (by assumption) ?_
              rotate_left
              · (intro w hSw; (try dsimp only at hSw); go_simp; try (with_reducible rfl))
              try simp only [Act.put, List.getElem_toArray, List.getElem_cons_zero, List.getElem_cons_succ, List.setIfInBounds_toArray, List.set_cons_zero, List.set_cons_succ]
              refine wpAnyH_take (i := 8) (v := ?_) rfl (by kernel_rfl) (by kernel_rfl) (by kernel_rfl) (fun _ _ _ h => h) (Or.inl ⟨by rfl, ?_⟩) (by assumption) ?_
              rotate_left
              · (intro w hSw; (try dsimp only at hSw); go_simp; try (with_reducible rfl))
              try simp only [Act.put, List.getElem_toArray, List.getElem_cons_zero, List.getElem_cons_succ, List.setIfInBounds_toArray, List.set_cons_zero, List.set_cons_succ]
              refine wpAnyH_take (i := 9) (v := ?_) rfl (by kernel_rfl) (by kernel_rfl) (by kernel_rfl) (fun _ _ _ h => h) (Or.inl ⟨by rfl, ?_⟩) (by assumption) ?_
              rotate_left
              · (intro w hSw; (try dsimp only at hSw); go_simp; try (with_reducible rfl))
              try simp only [Act.put, List.getElem_toArray, List.getElem_cons_zero, List.getElem_cons_succ, List.setIfInBounds_toArray, List.set_cons_zero, List.set_cons_succ]
              refine wpAnyH_take (i := 10) (v := ?_) rfl (by kernel_rfl) (by kernel_rfl) (by kernel_rfl) (fun _ _ _ h => h) (Or.inl ⟨by rfl, ?_⟩) (by assumption) ?_
              rotate_left
              · (intro w hSw; (try dsimp only at hSw); go_simp; try (with_reducible rfl))
              try simp only [Act.put, List.getElem_toArray, List.getElem_cons_zero, List.getElem_cons_succ, List.setIfInBounds_toArray, List.set_cons_zero, List.set_cons_succ]
              refine wpAnyH_take (i := 11) (v := ?_) rfl (by kernel_rfl) (by kernel_rfl) (by kernel_rfl) (fun _ _ _ h => h) (Or.inl ⟨by rfl, ?_⟩) (by assumption) ?_
              rotate_left
              · (intro w hSw; (try dsimp only at hSw); go_simp; try (with_reducible rfl))
              try simp only [Act.put, List.getElem_toArray, List.getElem_cons_zero, List.getElem_cons_succ, List.setIfInBounds_toArray, List.set_cons_zero, List.set_cons_succ]
              refine wpAnyH_take (i := 14) (v := ?_) rfl (by kernel_rfl) (by kernel_rfl) (by kernel_rfl) (fun _ _ _ h => h) (Or.inl ⟨by rfl, ?_⟩) (by assumption) ?_
              rotate_left
              · (intro w hSw; (try dsimp only at hSw); go_simp; try (with_reducible rfl))
              try simp only [Act.put, List.getElem_toArray, List.getElem_cons_zero, List.getElem_cons_succ, List.setIfInBounds_toArray, List.set_cons_zero, List.set_cons_succ]
              refine wpAnyH_ready (rs := [4, 12]) (by kernel_rfl) (by simp) ?_
              refine (AllReadyH.cons rfl (fun K hK => ?_) (AllReadyH.cons rfl (fun K hK => ?_) AllReadyH.nil))
              · go_simp
                refine hK.out _ _ ?_ (fun hHeld => ?_)
                · first | exact hHeld | (simp [go_sem, b1, x0, x1, x2, x3, hrW, hgW, Nat.ne_of_lt]; done) | exact ⟨hbg _ _ hHeld.1, hbh _ _ hHeld.2.1, hbh _ _ hHeld.2.2.1, hbh _ _ hHeld.2.2.2.1, hbh _ _ hHeld.2.2.2.2⟩ | exact ⟨(set_cell_ne _ _ _ _ _ _ hrp).trans hHeld.1, (set_cell_ne _ _ _ _ _ _ hgp).trans (hHeld.2.1), (set_cell_ne _ _ _ _ _ _ hgp).trans (hHeld.2.2.1), (set_cell_ne _ _ _ _ _ _ hgp).trans (hHeld.2.2.2.1), (set_cell_ne _ _ _ _ _ _ hgp).trans (hHeld.2.2.2.2)⟩
                clear hK K
                try simp only [Act.put, List.getElem_toArray, List.getElem_cons_zero, List.getElem_cons_succ, List.setIfInBounds_toArray, List.set_cons_zero, List.set_cons_succ]
                refine wpAnyH_ready (rs := [12]) (by kernel_rfl) (by simp) ?_
                refine (AllReadyH.cons rfl (fun K hK => ?_) AllReadyH.nil)
                · go_simp
                  refine hK.out _ _ ?_ (fun hHeld => ?_)
                  · first | exact hHeld | (simp [go_sem, b1, x0, x1, x2, x3, hrW, hgW, Nat.ne_of_lt]; done) | exact ⟨hbg _ _ hHeld.1, hbh _ _ hHeld.2.1, hbh _ _ hHeld.2.2.1, hbh _ _ hHeld.2.2.2.1, hbh _ _ hHeld.2.2.2.2⟩ | exact ⟨(set_cell_ne _ _ _ _ _ _ hrp).trans hHeld.1, (set_cell_ne _ _ _ _ _ _ hgp).trans (hHeld.2.1), (set_cell_ne _ _ _ _ _ _ hgp).trans (hHeld.2.2.1), (set_cell_ne _ _ _ _ _ _ hgp).trans (hHeld.2.2.2.1), (set_cell_ne _ _ _ _ _ _ hgp).trans (hHeld.2.2.2.2)⟩
                  clear hK K
                  try simp only [Act.put, List.getElem_toArray, List.getElem_cons_zero, List.getElem_cons_succ, List.setIfInBounds_toArray, List.set_cons_zero, List.set_cons_succ]
                  refine wpAnyH_ready (rs := [13]) (by kernel_rfl) (by simp) ?_
                  refine (AllReadyH.cons rfl (fun K hK => ?_) AllReadyH.nil)
                  · refine step_append_at rfl (.tmp 56) (.tmp 64) 29 rfl (r + 3) 81 i2 _ 4 32 Try.underlying29 HJ.out.1 HJ.out.2.1 HJ.out.2.2.1 HJ.out.2.2.2 rfl (by decide) (.slice qa i qc) i (flatA Q) rfl HOA.out ⟨wr.heap.size, 0, none⟩ 1 1 [.bool xpm, .int .i64 xpr, .int .i64 xln, .int .i64 xcl] rfl rfl (fun j u hj => new_cells wr [.bool xpm, .int .i64 xpr, .int .i64 xln, .int .i64 xcl] 81 j u hj) (fun u hu => rl_one [⟨xpm, xpr, xln, xcl⟩] u (by simpa [flatA, Rl.vals] using hu)) (by unfold maxLen; omega) (by omega) (by have := HSW.out; simp [go_sem]; omega) ?_
                    intro v' w4 hown hgrow hat
                    obtain ⟨sa4, sc4, rfl⟩ := own_len hown
                    have HOW4 := hide hown
                    have HGR := hide hgrow
                    have HAT := hide hat
                    have hpne : some p ≠ (Value.slice qa i qc).ownBlock := fun z => by have := (HTL.out p z.symm); omega
                    have nr4 : w4.cell? ⟨p, 16 + D, none⟩ = some (.slice qa i qc) := hgrow.cell nra hpne
                    have nf4 : w4.frozen? ⟨p, 16 + D, none⟩ = false := (hgrow.frozen_far ⟨p, 16 + D, none⟩ hpa hpne).trans nfa
                    have hbg : ∀ j u, (wr.alloc (.cells #[.bool xpm, .int .i64 xpr, .int .i64 xln, .int .i64 xcl] 81)).drew.cell? ⟨r, j, none⟩ = some u → w4.cell? ⟨r, j, none⟩ = some u := fun j u hj => hgrow.cell hj (fun z => by have := (HTL.out r z.symm); omega)
                    have hbh : ∀ j u, (wr.alloc (.cells #[.bool xpm, .int .i64 xpr, .int .i64 xln, .int .i64 xcl] 81)).drew.cell? ⟨g, j, none⟩ = some u → w4.cell? ⟨g, j, none⟩ = some u := fun j u hj => hgrow.cell hj (fun z => by have := (HTL.out g z.symm); omega)
                    clear hown hgrow hat
                    refine hK.out _ _ ?_ (fun hHeld => ?_)
                    · first | exact hHeld | (simp [go_sem, b1, x0, x1, x2, x3, hrW, hgW, Nat.ne_of_lt]; done) | exact ⟨hbg _ _ hHeld.1, hbh _ _ hHeld.2.1, hbh _ _ hHeld.2.2.1, hbh _ _ hHeld.2.2.2.1, hbh _ _ hHeld.2.2.2.2⟩ | exact ⟨(set_cell_ne _ _ _ _ _ _ hrp).trans hHeld.1, (set_cell_ne _ _ _ _ _ _ hgp).trans (hHeld.2.1), (set_cell_ne _ _ _ _ _ _ hgp).trans (hHeld.2.2.1), (set_cell_ne _ _ _ _ _ _ hgp).trans (hHeld.2.2.2.1), (set_cell_ne _ _ _ _ _ _ hgp).trans (hHeld.2.2.2.2)⟩
                    clear hK K
                    try simp only [Act.put, List.getElem_toArray, List.getElem_cons_zero, List.getElem_cons_succ, List.setIfInBounds_toArray, List.set_cons_zero, List.set_cons_succ]
                    refine wpAnyH_take (i := 15) (v := ?_) rfl (by kernel_rfl) (by kernel_rfl) (by kernel_rfl) (fun _ _ _ h => h) (Or.inl ⟨by rfl, ?_⟩) (by assumption) ?_
                    rotate_left
                    · (intro w hSw; (try dsimp only at hSw); go_simp; try (with_reducible rfl))
                    try simp only [Act.put, List.getElem_toArray, List.getElem_cons_zero, List.getElem_cons_succ, List.setIfInBounds_toArray, List.set_cons_zero, List.set_cons_succ]
                    refine wpAnyH_ready (rs := [16]) (by kernel_rfl) (by simp) ?_
                    refine (AllReadyH.cons rfl (fun K hK => ?_) AllReadyH.nil)
                    · go_simp
                      refine hK.out _ _ ?_ (fun hHeld => ?_)
                      · first | exact hHeld | (simp [go_sem, b1, x0, x1, x2, x3, hrW, hgW, Nat.ne_of_lt]; done) | exact ⟨hbg _ _ hHeld.1, hbh _ _ hHeld.2.1, hbh _ _ hHeld.2.2.1, hbh _ _ hHeld.2.2.2.1, hbh _ _ hHeld.2.2.2.2⟩ | exact ⟨(set_cell_ne _ _ _ _ _ _ hrp).trans hHeld.1, (set_cell_ne _ _ _ _ _ _ hgp).trans (hHeld.2.1), (set_cell_ne _ _ _ _ _ _ hgp).trans (hHeld.2.2.1), (set_cell_ne _ _ _ _ _ _ hgp).trans (hHeld.2.2.2.1), (set_cell_ne _ _ _ _ _ _ hgp).trans (hHeld.2.2.2.2)⟩
                      clear hK K
                      try simp only [Act.put, List.getElem_toArray, List.getElem_cons_zero, List.getElem_cons_succ, List.setIfInBounds_toArray, List.set_cons_zero, List.set_cons_succ]
                      refine wpAnyH_done (by kernel_rfl) ?_ _
                      have HXG : Hid (MXn (w4.setCell ⟨p, 16 + D, none⟩ (.slice sa4 (i + 1) sc4)) p (r + 3) (D + 1) { M with rt := upd M.rt D (M.rt D), ac := upd M.ac D (L.take (i + 1)) } ur2 (upd ua2 D (.slice sa4 (i + 1) sc4))) := by
                        have h1 := (HX2.out.new (((Ex.refl (fun _ => False) wr).alloc (.cells #[.bool xpm, .int .i64 xpr, .int .i64 xln, .int .i64 xcl] 81)).drew)).setA (d := D) (by omega) (by omega) (Ex.ofGrown HGR.out (fun k hk => by rw [HV.out]; exact hk)) (L := Q ++ [⟨xpm, xpr, xln, xcl⟩]) (v := .slice sa4 (i + 1) sc4) (by
                          rw [show (Q ++ [(⟨xpm, xpr, xln, xcl⟩ : Rl)]).length = i + 1 by rw [List.length_append, HQL.out]; rfl, flatA_snoc]
                          exact own_low HOW4.out (Nat.zero_le _)) (fun k hk => by
                          rw [HV.out]
                          rcases HAT.out with z | z
                          · left; rw [← hk]; exact z.symm
                          · right
                            rw [hk] at z
                            injection z with z
                            rw [z]
                            exact Nat.le_refl _) (by have := HSW.out; simp [go_sem]; omega)
                        rw [Nat.zero_add] at h1
                        refine h1.ext ?_
                        simp only [upd_upd]
                        rw [← HQS.out]
                      have HEF : Hid (Ex (fun k => k = p) W2 (w4.setCell ⟨p, 16 + D, none⟩ (.slice sa4 (i + 1) sc4))) := (((HE2.out.alloc (.cells #[.bool xpm, .int .i64 xpr, .int .i64 xln, .int .i64 xcl] 81)).drew.trans2 (Ex.ofGrown (S := fun k => (Value.slice qa i qc).ownBlock = some k) HGR.out (fun k hk => hk.symm)) (fun k hk => .inr (by have := HTL.out k hk; have := HSZ.out; omega)))).set (p := p) rfl _
                      clear HGR HOW4 HAT nr4 nf4 nr nra nf nfa HOA HO hbg hbh b1 x0 x1 x2 x3 HX2 HE2 hHeld HQS HQL HV HQO hpa HTL
                      generalize w4.setCell ⟨p, 16 + D, none⟩ (.slice sa4 (i + 1) sc4) = W9 at *
                      rw [← HLM.out] at HXG
                      have HNM : Hid ((M.ac D).length = n) := by show _ = _; rw [HLM.out]; exact HNL.out
                      go_wp2
                      go_roundw
                      case rel => exact ⟨i + 1, _, _, by go_num, by rw [HNM.out]; omega, HXG, HEF⟩
                      case measure => (simp [intOf]; rw [HNM.out]; omega)
              · go_simp
                refine hK.out _ _ ?_ (fun hHeld => ?_)
                · first | exact hHeld | (simp [go_sem, b1, x0, x1, x2, x3, hrW, hgW, Nat.ne_of_lt]; done) | exact ⟨hbg _ _ hHeld.1, hbh _ _ hHeld.2.1, hbh _ _ hHeld.2.2.1, hbh _ _ hHeld.2.2.2.1, hbh _ _ hHeld.2.2.2.2⟩ | exact ⟨(set_cell_ne _ _ _ _ _ _ hrp).trans hHeld.1, (set_cell_ne _ _ _ _ _ _ hgp).trans (hHeld.2.1), (set_cell_ne _ _ _ _ _ _ hgp).trans (hHeld.2.2.1), (set_cell_ne _ _ _ _ _ _ hgp).trans (hHeld.2.2.2.1), (set_cell_ne _ _ _ _ _ _ hgp).trans (hHeld.2.2.2.2)⟩
                clear hK K
                try simp only [Act.put, List.getElem_toArray, List.getElem_cons_zero, List.getElem_cons_succ, List.setIfInBounds_toArray, List.set_cons_zero, List.set_cons_succ]
                refine wpAnyH_ready (rs := [4]) (by kernel_rfl) (by simp) ?_
                refine (AllReadyH.cons rfl (fun K hK => ?_) AllReadyH.nil)
                · go_simp
                  refine hK.out _ _ ?_ (fun hHeld => ?_)
                  · first | exact hHeld | (simp [go_sem, b1, x0, x1, x2, x3, hrW, hgW, Nat.ne_of_lt]; done) | exact ⟨hbg _ _ hHeld.1, hbh _ _ hHeld.2.1, hbh _ _ hHeld.2.2.1, hbh _ _ hHeld.2.2.2.1, hbh _ _ hHeld.2.2.2.2⟩ | exact ⟨(set_cell_ne _ _ _ _ _ _ hrp).trans hHeld.1, (set_cell_ne _ _ _ _ _ _ hgp).trans (hHeld.2.1), (set_cell_ne _ _ _ _ _ _ hgp).trans (hHeld.2.2.1), (set_cell_ne _ _ _ _ _ _ hgp).trans (hHeld.2.2.2.1), (set_cell_ne _ _ _ _ _ _ hgp).trans (hHeld.2.2.2.2)⟩
                  clear hK K
                  try simp only [Act.put, List.getElem_toArray, List.getElem_cons_zero, List.getElem_cons_succ, List.setIfInBounds_toArray, List.set_cons_zero, List.set_cons_succ]
                  refine wpAnyH_ready (rs := [13]) (by kernel_rfl) (by simp) ?_
                  refine (AllReadyH.cons rfl (fun K hK => ?_) AllReadyH.nil)
                  · refine step_append_at rfl (.tmp 56) (.tmp 64) 29 rfl (r + 3) 81 i2 _ 4 32 Try.underlying29 HJ.out.1 HJ.out.2.1 HJ.out.2.2.1 HJ.out.2.2.2 rfl (by decide) (.slice qa i qc) i (flatA Q) rfl HOA.out ⟨wr.heap.size, 0, none⟩ 1 1 [.bool xpm, .int .i64 xpr, .int .i64 xln, .int .i64 xcl] rfl rfl (fun j u hj => new_cells wr [.bool xpm, .int .i64 xpr, .int .i64 xln, .int .i64 xcl] 81 j u hj) (fun u hu => rl_one [⟨xpm, xpr, xln, xcl⟩] u (by simpa [flatA, Rl.vals] using hu)) (by unfold maxLen; omega) (by omega) (by have := HSW.out; simp [go_sem]; omega) ?_
                    intro v' w4 hown hgrow hat
                    obtain ⟨sa4, sc4, rfl⟩ := own_len hown
                    have HOW4 := hide hown
                    have HGR := hide hgrow
                    have HAT := hide hat
                    have hpne : some p ≠ (Value.slice qa i qc).ownBlock := fun z => by have := (HTL.out p z.symm); omega
                    have nr4 : w4.cell? ⟨p, 16 + D, none⟩ = some (.slice qa i qc) := hgrow.cell nra hpne
                    have nf4 : w4.frozen? ⟨p, 16 + D, none⟩ = false := (hgrow.frozen_far ⟨p, 16 + D, none⟩ hpa hpne).trans nfa
                    have hbg : ∀ j u, (wr.alloc (.cells #[.bool xpm, .int .i64 xpr, .int .i64 xln, .int .i64 xcl] 81)).drew.cell? ⟨r, j, none⟩ = some u → w4.cell? ⟨r, j, none⟩ = some u := fun j u hj => hgrow.cell hj (fun z => by have := (HTL.out r z.symm); omega)
                    have hbh : ∀ j u, (wr.alloc (.cells #[.bool xpm, .int .i64 xpr, .int .i64 xln, .int .i64 xcl] 81)).drew.cell? ⟨g, j, none⟩ = some u → w4.cell? ⟨g, j, none⟩ = some u := fun j u hj => hgrow.cell hj (fun z => by have := (HTL.out g z.symm); omega)
                    clear hown hgrow hat
                    refine hK.out _ _ ?_ (fun hHeld => ?_)
                    · first | exact hHeld | (simp [go_sem, b1, x0, x1, x2, x3, hrW, hgW, Nat.ne_of_lt]; done) | exact ⟨hbg _ _ hHeld.1, hbh _ _ hHeld.2.1, hbh _ _ hHeld.2.2.1, hbh _ _ hHeld.2.2.2.1, hbh _ _ hHeld.2.2.2.2⟩ | exact ⟨(set_cell_ne _ _ _ _ _ _ hrp).trans hHeld.1, (set_cell_ne _ _ _ _ _ _ hgp).trans (hHeld.2.1), (set_cell_ne _ _ _ _ _ _ hgp).trans (hHeld.2.2.1), (set_cell_ne _ _ _ _ _ _ hgp).trans (hHeld.2.2.2.1), (set_cell_ne _ _ _ _ _ _ hgp).trans (hHeld.2.2.2.2)⟩
                    clear hK K
                    try simp only [Act.put, List.getElem_toArray, List.getElem_cons_zero, List.getElem_cons_succ, List.setIfInBounds_toArray, List.set_cons_zero, List.set_cons_succ]
                    refine wpAnyH_take (i := 15) (v := ?_) rfl (by kernel_rfl) (by kernel_rfl) (by kernel_rfl) (fun _ _ _ h => h) (Or.inl ⟨by rfl, ?_⟩) (by assumption) ?_
                    rotate_left
                    · (intro w hSw; (try dsimp only at hSw); go_simp; try (with_reducible rfl))
                    try simp only [Act.put, List.getElem_toArray, List.getElem_cons_zero, List.getElem_cons_succ, List.setIfInBounds_toArray, List.set_cons_zero, List.set_cons_succ]
                    refine wpAnyH_ready (rs := [16]) (by kernel_rfl) (by simp) ?_
                    refine (AllReadyH.cons rfl (fun K hK => ?_) AllReadyH.nil)
                    · go_simp
                      refine hK.out _ _ ?_ (fun hHeld => ?_)
                      · first | exact hHeld | (simp [go_sem, b1, x0, x1, x2, x3, hrW, hgW, Nat.ne_of_lt]; done) | exact ⟨hbg _ _ hHeld.1, hbh _ _ hHeld.2.1, hbh _ _ hHeld.2.2.1, hbh _ _ hHeld.2.2.2.1, hbh _ _ hHeld.2.2.2.2⟩ | exact ⟨(set_cell_ne _ _ _ _ _ _ hrp).trans hHeld.1, (set_cell_ne _ _ _ _ _ _ hgp).trans (hHeld.2.1), (set_cell_ne _ _ _ _ _ _ hgp).trans (hHeld.2.2.1), (set_cell_ne _ _ _ _ _ _ hgp).trans (hHeld.2.2.2.1), (set_cell_ne _ _ _ _ _ _ hgp).trans (hHeld.2.2.2.2)⟩
                      clear hK K
                      try simp only [Act.put, List.getElem_toArray, List.getElem_cons_zero, List.getElem_cons_succ, List.setIfInBounds_toArray, List.set_cons_zero, List.set_cons_succ]
                      refine wpAnyH_done (by kernel_rfl) ?_ _
                      have HXG : Hid (MXn (w4.setCell ⟨p, 16 + D, none⟩ (.slice sa4 (i + 1) sc4)) p (r + 3) (D + 1) { M with rt := upd M.rt D (M.rt D), ac := upd M.ac D (L.take (i + 1)) } ur2 (upd ua2 D (.slice sa4 (i + 1) sc4))) := by
                        have h1 := (HX2.out.new (((Ex.refl (fun _ => False) wr).alloc (.cells #[.bool xpm, .int .i64 xpr, .int .i64 xln, .int .i64 xcl] 81)).drew)).setA (d := D) (by omega) (by omega) (Ex.ofGrown HGR.out (fun k hk => by rw [HV.out]; exact hk)) (L := Q ++ [⟨xpm, xpr, xln, xcl⟩]) (v := .slice sa4 (i + 1) sc4) (by
                          rw [show (Q ++ [(⟨xpm, xpr, xln, xcl⟩ : Rl)]).length = i + 1 by rw [List.length_append, HQL.out]; rfl, flatA_snoc]
                          exact own_low HOW4.out (Nat.zero_le _)) (fun k hk => by
                          rw [HV.out]
                          rcases HAT.out with z | z
                          · left; rw [← hk]; exact z.symm
                          · right
                            rw [hk] at z
                            injection z with z
                            rw [z]
                            exact Nat.le_refl _) (by have := HSW.out; simp [go_sem]; omega)
                        rw [Nat.zero_add] at h1
                        refine h1.ext ?_
                        simp only [upd_upd]
                        rw [← HQS.out]
                      have HEF : Hid (Ex (fun k => k = p) W2 (w4.setCell ⟨p, 16 + D, none⟩ (.slice sa4 (i + 1) sc4))) := (((HE2.out.alloc (.cells #[.bool xpm, .int .i64 xpr, .int .i64 xln, .int .i64 xcl] 81)).drew.trans2 (Ex.ofGrown (S := fun k => (Value.slice qa i qc).ownBlock = some k) HGR.out (fun k hk => hk.symm)) (fun k hk => .inr (by have := HTL.out k hk; have := HSZ.out; omega)))).set (p := p) rfl _
                      clear HGR HOW4 HAT nr4 nf4 nr nra nf nfa HOA HO hbg hbh b1 x0 x1 x2 x3 HX2 HE2 hHeld HQS HQL HV HQO hpa HTL
                      generalize w4.setCell ⟨p, 16 + D, none⟩ (.slice sa4 (i + 1) sc4) = W9 at *
                      rw [← HLM.out] at HXG
                      have HNM : Hid ((M.ac D).length = n) := by show _ = _; rw [HLM.out]; exact HNL.out
                      go_wp2
                      go_roundw
                      case rel => exact ⟨i + 1, _, _, by go_num, by rw [HNM.out]; omega, HXG, HEF⟩
                      case measure => (simp [intOf]; rw [HNM.out]; omega)
            · obtain rfl : i = n := by omega
              have d1 : decide ((i : Int) < (i : Int)) = false := decide_eq_false (by omega)
              have HX4 : Hid (MXn wr p (r + 3) (D + 1) M ur2 ua2) := by
                refine HX2.out.ext ?_
                rw [List.take_of_length_le (by rw [HNL.out]; exact Nat.le_refl _), ← HLM.out, upd_self, upd_self]
              clear HX2
              go_wp2
              go_roundw
              case rel => exact ⟨D + 1, ur2, ua2, by go_num, by omega, HX4, HE2⟩
              case measure => (simp [intOf]; try omega)
    · obtain rfl : D = 16 := by omega
      go_upto_region 15 with fail
      have HLN := hide (mnC_len M ur ua)
      have HRG : Hid (wr.rangeAt p 0 (mnC M ur ua)) := HX.out.ma.range
      have HON := hide HX.out.ma.mv.one
      have HTQ : Hid (wr.there (r + 1) 0 304) := there_keep (S := fun k => k = p) HTR.out HE.out hrp1
      have HMX := hide HX.out
      obtain ⟨ds, hds⟩ : ∃ ds, mnC M ur ua = ds := ⟨_, rfl⟩
      rw [hds] at HLN HRG HON
      have HDS := hide hds
      clear hds
      refine wp_region_lit ?_
      refine wpL_load rfl 34 (.tmp 3) rfl p 0 rfl ds _ HRG.out Try.underlying34 rfl (by rw [HLN.out]; exact Try.sz34) ?_
      try simp only [Act.put, List.getElem_toArray, List.getElem_cons_zero, List.getElem_cons_succ, List.setIfInBounds_toArray, List.set_cons_zero, List.set_cons_succ]
      refine wpL_store rfl 34 (.tmp 2) (.tmp 68) rfl (r + 1) 0 ds rfl rfl (by rw [HLN.out]; exact HTQ.out) (by rw [HLN.out]; exact Try.sz34) HON.out ?_
      try simp only [Act.put, List.getElem_toArray, List.getElem_cons_zero, List.getElem_cons_succ, List.setIfInBounds_toArray, List.set_cons_zero, List.set_cons_succ]
      refine wpList_nil ?_
      have EB : Ex (fun k => k = r + 1) wr (wr.setCells (r + 1) 0 ds) := Ex.sets (S := fun k => k = r + 1) (p := r + 1) rfl _ _ _ (Ex.refl _ _)
      have HEF : Hid (Ex (fun _ => False) w (wr.setCells (r + 1) 0 ds)) := (HEW.out.trans2 (HE.out.mono (fun k hk => (Or.inl hk : k = p ∨ k = r + 1)) |>.trans (EB.mono (fun k hk => .inr hk))) (fun k hk => .inr (by rw [HR.out]; rcases hk with z | z <;> omega)))
      have HRX : Hid ((wr.setCells (r + 1) 0 ds).rangeAt (r + 1) 0 ds) := World.rangeAt_setCells_same _ _ 0 ds (by rw [HLN.out]; exact HTQ.out)
      have HMW : Hid (MW (wr.setCells (r + 1) 0 ds) w.heap.size M ur ua) := by
        refine ⟨HMX.out.ma.mv.keep EB (fun d hd k hk (z : k = r + 1) => by have := HMX.out.rb d hd k hk; omega) (fun d hd k hk (z : k = r + 1) => by have := HMX.out.ab d hd k hk; omega), fun d hd k hk => ?_, fun d hd k hk => ?_, HMX.out.rr, HMX.out.aa, HMX.out.ra⟩
        · have := HMX.out.rb d hd k hk; rw [HR.out]; omega
        · have := HMX.out.ab d hd k hk; rw [HR.out]; omega
      clear HTQ HRG EB HX HE HMX
      generalize wr.setCells (r + 1) 0 ds = W7 at *
      go_wp2
      refine bodyPost_ret (v := .agg ds.toArray) ?_ rfl ⟨ur, ua, by rw [HDS.out], HEF.out, HMW.out⟩
      have HLD := run_loadVar_mid (P := Try.prog) W7 (r + 1) 0 34 ds _ HRX.out Try.underlying34 rfl (by rw [HLN.out]; exact Try.sz34)
      exact results_cell (a := 2) Try.results70 rfl HLD
end Go.Proofs.Qxb6500778a
