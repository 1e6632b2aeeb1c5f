import Derived.Test.Qxb6500784aAp
import Derived.Deep.CutBlock
namespace Go.Proofs.Qxb6500784a
open Go.RowKit

theorem Try.sz50 : (Try.prog.info? 50).map (·.size) = some 326 := by kernel_rfl
theorem Try.zs50 : Try.zeroCells50.size = 326 := by kernel_rfl
theorem Try.inf151 : (Try.prog.info? 151).map (fun i => (i.zero, i.size, i.bytes)) = some (some (.agg #[.int .u8 0, .int .u64 0]), 2, 16) := by kernel_rfl
theorem Try.inf50 : (Try.prog.info? 50).map (fun i => (i.zero, i.size, i.bytes)) = some (some (.agg Try.zeroCells50), 326, 2640) := by kernel_rfl
/-- What a copy has made so far: the argument's cells, the result's room, the copy's cells. -/
structure CpS (w wr : World) (A n : Nat) (V U : List Value) : Prop where
  r : wr.rangeAt A 0 V
  t : wr.there (A + 1) 0 n
  x : wr.rangeAt (A + 2) 0 U
  tx : wr.there (A + 2) 0 n
  b : Below A w wr
  e : A + 3 ≤ wr.heap.size
theorem CpS.set {w wr : World} {A n : Nat} {V U : List Value} (h : CpS w wr A n V U) (j : Nat) (u : Value) : CpS w (wr.setCell ⟨A + 2, j, none⟩ u) A n V (U.set j u) :=
  ⟨range_set_ne h.r (by omega) j u, there_set h.t _ u, by have := range_set h.x j u; rwa [Nat.zero_add] at this, there_set h.tx _ u, h.b.setCell (p := ⟨A + 2, j, none⟩) (by show A ≤ A + 2; omega) u, by simpa using h.e⟩
theorem CpS.ex {w wr w' : World} {A n : Nat} {V U : List Value} {S : Nat → Prop} (h : CpS w wr A n V U) (k : Ex S wr w') (hS : ∀ j, j < A + 3 → ¬ S j) (hA : A = w.heap.size) : CpS w w' A n V U := by
  have e := h.e
  exact ⟨range_ex h.r (by omega) k (hS _ (by omega)), there_ex h.t (by omega) k (hS _ (by omega)), range_ex h.x (by omega) k (hS _ (by omega)), there_ex h.tx (by omega) k (hS _ (by omega)),
    h.b.trans (k.below (by omega) fun j hj => hS j (by omega)), Nat.le_trans h.e k.size⟩
theorem CpS.below {w wr w' : World} {A n : Nat} {V U : List Value} (h : CpS w wr A n V U) (k : Below wr.heap.size wr w') (hA : A = w.heap.size) : CpS w w' A n V U := h.ex (S := fun _ => False) (Ex.of k) (fun _ _ e => e) hA
theorem own0 {w : World} {B e s : Nat} {v : Value} {n : Nat} {xs : List Value} (h : w.ownsRow B e s v n xs) : w.ownsRow 0 e s v n xs := ⟨h.1, h.2.imp id fun ⟨g, cap, cur, a, _, r⟩ => ⟨g, cap, cur, a, Nat.zero_le _, r⟩⟩
def ledW (sw : List (Led0 × Value)) : List (Fl × List Value) := sw.map fun p => (p.1.fl, [p.2])
theorem ledW_flat (sw : List (Led0 × Value)) : (ledW sw).flatMap (fun p => p.1.lay p.2 nilS) = sw.flatMap fun p => p.1.vals p.2 nilS := by
  rw [ledW, List.flatMap_map]; rfl
def CpL (w : World) (l : Led0) (sv : List Led0) (e : Ending) (w' : World) : Prop :=
  ∃ m s sw, e = .returned (.agg (Led0.vals l m s).toArray) ∧ Below w.heap.size w w' ∧ sw.map (·.1) = sv ∧ CV w' 50 326 l.fl (ledW sw) [m] s ∧ (∀ j, j ∈ blks ([m] ++ s :: (ledW sw).flatMap (·.2)) → w.heap.size ≤ j) ∧ (sv = [] → s = nilS)
/-- The loop's word. -/
def CpI (w wr : World) (A : Nat) (V : List Value) (l : Led0) (m : Value) (sv : List Led0) (k : Nat) (s : Value) (sk : List (Led0 × Value)) : Prop :=
  CpS w wr A 326 V (l.vals m s) ∧ CV wr 50 326 l.fl (ledW sk) [m] s ∧ sk.map (·.1) = sv.take k ∧ (∀ j, j ∈ blks ([m] ++ s :: (ledW sk).flatMap (·.2)) → A + 3 ≤ j) ∧ (k = 0 → s = nilS)
theorem CpI.below {w wr w' : World} {A : Nat} {V : List Value} {l : Led0} {m : Value} {sv : List Led0} {k : Nat} {s : Value} {sk : List (Led0 × Value)} (h : CpI w wr A V l m sv k s sk) (b : Below wr.heap.size wr w') (hA : A = w.heap.size) : CpI w w' A V l m sv k s sk :=
  ⟨h.1.below b hA, h.2.1.keep (S := fun _ => False) (Ex.of b) (fun _ _ e => e), h.2.2⟩
theorem CpI.c325 {w wr : World} {A : Nat} {V : List Value} {l : Led0} {m : Value} {sv : List Led0} {k : Nat} {s : Value} {sk : List (Led0 × Value)} (h : CpI w wr A V l m sv k s sk) (ho : l.Ok) : wr.cell? ⟨A + 2, 325, none⟩ = some s := by
  have := h.1.x 325 s (Led0.at325 ho _ _)
  simpa using this
attribute [-simp] Try.isAgg50 Try.sizeOf50 Try.typeInfo50
set_option linter.unusedSimpArgs false in
set_option maxRecDepth 100000 in
set_option maxHeartbeats 4000000 in
theorem copyL_gen (w : World) (l : Led0) (sw : List (Led0 × Value)) (m s : Value) (ho : l.Ok) (hs : ∀ p, p ∈ sw → p.1.Ok ∧ p.1.mks.length ≤ 1000000000000) (hv : CV w 50 326 l.fl (ledW sw) [m] s) (hml : l.mks.length ≤ 1000000000000) (hsl : sw.length ≤ 1000)
    (hrec : sw ≠ [] → ∀ (w : World) (q : Led0) (r : Value), q.Ok → q.mks.length ≤ 1000000000000 → FlV w q.fl [r] → Calls Try.prog 76 #[.agg (q.vals r nilS).toArray] w (CpL w q [])) :
    Calls Try.prog 76 #[.agg (l.vals m s).toArray] w (CpL w l (sw.map (·.1))) := by
  have HO := hide ho
  have HS := hide hs
  have HV := hide hv
  have HML := hide hml
  have HREC := hide hrec
  clear ho hs hv hml hrec
  obtain ⟨i1, hi1, hz1, hy1, hb1⟩ := info_parts Try.inf151
  obtain ⟨i5, hi5, hz5, hy5, hb5⟩ := info_parts Try.inf50
  have HI1 := hide (show Try.prog.info? 151 = some i1 ∧ i1.zero = some (.agg #[.int .u8 0, .int .u64 0]) ∧ i1.size = 2 ∧ i1.bytes = 16 from ⟨hi1, hz1, hy1, hb1⟩)
  have HI5 := hide (show Try.prog.info? 50 = some i5 ∧ i5.zero = some (.agg Try.zeroCells50) ∧ i5.size = 326 ∧ i5.bytes = 2640 from ⟨hi5, hz5, hy5, hb5⟩)
  clear hi1 hz1 hy1 hb1 hi5 hz5 hy5 hb5
  have HMO : Hid (w.ownsRow 0 151 2 m l.mks.length (l.mks.flatMap markV)) := HV.out.fl.2 0 _ m rfl rfl
  have HM1 : Hid (m.oneCell' = true) := by obtain ⟨a, c, rfl⟩ := own_form HMO.out; rfl
  obtain ⟨sa, sc, hse⟩ := own_form HV.out.sl
  obtain ⟨n, hn⟩ : ∃ n, sw.length = n := ⟨_, rfl⟩
  rw [show (ledW sw).length = n by rw [← hn]; simp [ledW]] at hse
  subst hse
  have HN := hide hn
  have hn1 : n ≤ 1000 := by omega
  clear hn
  obtain ⟨V, hV⟩ : ∃ V, l.vals m (.slice sa n sc) = V := ⟨_, rfl⟩
  rw [hV]
  have HVl : Hid (V.length = 326) := by rw [← hV]; exact Led0.len HO.out _ _
  have HV1 : Hid (∀ u ∈ V, u.oneCell' = true) := by rw [← hV]; exact Led0.one l HM1.out rfl
  have HVe := hide hV
  clear hV
  obtain ⟨R, hR⟩ : ∃ R, CpL w l (sw.map (·.1)) = R := ⟨_, rfl⟩
  rw [hR]
  have HR := hide hR
  clear hR
  go_enter Try.func76, Try.ntmps76
  go_upto_region 1 with fail
  obtain ⟨A, hA⟩ : ∃ A, w.heap.size = A := ⟨_, rfl⟩
  have HA := hide hA
  have R1 := hide (World.rangeAt_alloc (newR w V 50) (.cells Try.zeroCells50 50))
  have T1 := hide (newTz (w.alloc (.cells V.toArray 50)) Try.zeroCells50 50)
  have B1 := hide (be2 w (.cells V.toArray 50) (.cells Try.zeroCells50 50))
  have E1 : Hid (((w.alloc (.cells V.toArray 50)).alloc (.cells Try.zeroCells50 50)).heap.size = A + 2) := by simp [Hid, hA]
  rw [Try.zs50, show (w.alloc (.cells V.toArray 50)).heap.size = A + 1 by simp [hA]] at T1
  rw [hA] at R1 B1 ⊢
  generalize (w.alloc (.cells V.toArray 50)).alloc (.cells Try.zeroCells50 50) = w1 at *
  clear hA
  go_wp2_with fail
  simp only [Try.isAgg50, Try.sizeOf50, Result.andThen, ↓reduceIte, ldC w1 A 0 V 326 HVl.out R1.out]
  rw [Oper.upon_value]
  go_wp2_with fail
  simp only [Try.sizeOf50, Result.andThen, HVl.out, ↓reduceIte, stNew w1 50 Try.zeroCells50 V 326 Try.sz50 Try.zs50 HVl.out HV1.out]
  rw [Oper.upon_skip]
  go_upto_region 2 with fail
  have HC2 : Hid (CpS w (w1.alloc (.cells V.toArray 50)) A 326 V V) := by
    have RX := newR w1 V 50
    have TX := newT w1 V 50
    rw [E1.out] at RX TX
    rw [HVl.out] at TX
    exact ⟨World.rangeAt_alloc R1.out _, World.there_alloc T1.out _, RX, TX, B1.out.alloc (by rw [E1.out]; omega) _, by simp [E1.out]⟩
  generalize w1.alloc (.cells V.toArray 50) = w2 at *
  rw [E1.out]
  clear R1 T1 B1 E1 w1
  have c1 : w2.cell? ⟨A + 2, 321, none⟩ = some m := by have := HC2.out.x 321 m (by rw [← HVe.out]; exact Led0.at321 HO.out _ _); simpa using this
  have f1 : w2.frozen? ⟨A + 2, 321, none⟩ = false := by have := (HC2.out.tx 321 (by omega)).2; simpa using this
  go_upto_region 3 with fail
  have HC3 := hide (HC2.out.set 321 nilS)
  rw [← HVe.out, Led0.set321 HO.out, HVe.out] at HC3
  generalize w2.setCell ⟨A + 2, 321, none⟩ nilS = w3 at *
  clear c1 f1 HC2 w2
  have c1 : w3.cell? ⟨A + 2, 321, none⟩ = some nilS := by have := HC3.out.x 321 nilS (Led0.at321 HO.out _ _); simpa using this
  have c2 : w3.cell? ⟨A, 321, none⟩ = some m := by have := HC3.out.r 321 m (by rw [← HVe.out]; exact Led0.at321 HO.out _ _); simpa using this
  go_upto_region 4 with (at_builtin; refine app_copy rfl (.tmp 9) (.tmp 11) 47 rfl 151 i1 _ 2 16 Try.underlying47 HI1.out.1 HI1.out.2.1 HI1.out.2.2.1 HI1.out.2.2.2 rfl (by decide) rfl m l.mks.length (l.mks.flatMap markV) rfl (own_kept HMO.out (S := fun k => A ≤ k) ⟨HC3.out.b.os, HC3.out.b.tape, HC3.out.b.output, HC3.out.b.size, fun k _ hS => HC3.out.b.block k (by omega)⟩ (fun k hk e => by have := (HMO.out.lt k hk).2; have := HA.out; omega)) (markV_one _) (by unfold maxLen; have := HML.out; omega) (by have := HML.out; omega) ?_; intro m' w4 hown hgrow; have c3 : w4.cell? ⟨A + 2, 321, none⟩ = some nilS := (hgrow.cell c1 (by simp)); have f3 : w4.frozen? ⟨A + 2, 321, none⟩ = false := (by rw [World.frozen?_of_block (hgrow.block (A + 2) (by have := HC3.out.e; omega) (by simp))]; have := (HC3.out.tx 321 (by omega)).2; simpa using this); have HC4 := hide (HC3.out.ex (S := fun _ => False) (Ex.ofGrown hgrow (fun k e => by cases e)) (fun _ _ e => e) HA.out.symm); have HM4 := hide (own0 hown); have HMB : Hid (∀ j, m'.ownBlock = some j → A + 3 ≤ j) := (fun j hj => Nat.le_trans HC3.out.e (hown.lt j hj).1); obtain ⟨ma, mc, rfl⟩ := own_form hown; clear hown hgrow c1 c2 HC3)
  have HC5 := hide (HC4.out.set 321 (.slice ma l.mks.length mc))
  rw [Led0.set321 HO.out] at HC5
  have HM5 : Hid ((w4.setCell ⟨A + 2, 321, none⟩ (.slice ma l.mks.length mc)).ownsRow 0 151 2 (.slice ma l.mks.length mc) l.mks.length (l.mks.flatMap markV)) := own_kept HM4.out (S := fun k => k = A + 2) ((Ex.refl (fun k => k = A + 2) _).set rfl _) (fun k hk e => by have := HMB.out k hk; omega)
  generalize w4.setCell ⟨A + 2, 321, none⟩ (.slice ma l.mks.length mc) = w5 at *
  clear c3 f3 HC4 HM4 w4
  have c1 : w5.cell? ⟨A + 2, 325, none⟩ = some (.slice sa n sc) := by have := HC5.out.x 325 (.slice sa n sc) (Led0.at325 HO.out _ _); simpa using this
  have f1 : w5.frozen? ⟨A + 2, 325, none⟩ = false := by have := (HC5.out.tx 325 (by omega)).2; simpa using this
  go_upto_region 5 with fail
  have HC6 := hide (HC5.out.set 325 nilS)
  rw [Led0.set325 HO.out] at HC6
  have HM6 : Hid ((w5.setCell ⟨A + 2, 325, none⟩ nilS).ownsRow 0 151 2 (.slice ma l.mks.length mc) l.mks.length (l.mks.flatMap markV)) := own_kept HM5.out (S := fun k => k = A + 2) ((Ex.refl (fun k => k = A + 2) _).set rfl _) (fun k hk e => by have := HMB.out k hk; omega)
  generalize w5.setCell ⟨A + 2, 325, none⟩ nilS = w6 at *
  clear c1 f1 HC5 HM5 w5
  obtain ⟨M, hM⟩ : ∃ M, Value.slice ma l.mks.length mc = M := ⟨_, rfl⟩
  rw [hM] at HC6 HM6 HMB ⊢
  clear hM
  have HIV : Hid (CpI w w6 A V l M (sw.map (·.1)) 0 nilS []) := by
    refine ⟨HC6.out, ⟨⟨rfl, fun i r v hr hv => ?_⟩, World.ownsRow_nil _ _ _ _, fun p hp => (by cases hp), ?_⟩, rfl, fun j hj => ?_, fun _ => rfl⟩
    · match i, hr, hv with
      | 0, hr, hv => cases hr; cases hv; exact HM6.out
      | i + 1, hr, hv => simp at hv
    · show (blks (M :: nilS :: [])).Nodup
      rw [blks_cons, blks_cons]
      cases M.ownBlock <;> simp [blks, Value.ownBlock]
    · obtain ⟨v, hv, e⟩ := mem_blks.1 hj
      simp [ledW] at hv
      rcases hv with rfl | rfl
      · exact HMB.out j e
      · simp [Value.ownBlock] at e
  clear HC6 HM6 HMB
  have c7 : w6.cell? ⟨A, 325, none⟩ = some (.slice sa n sc) := by have := HIV.out.1.r 325 (.slice sa n sc) (by rw [← HVe.out]; exact Led0.at325 HO.out _ _); simpa using this
  go_wp2
  clear c7
  go_loopw [18] (fun x wr => ∃ (k : Nat) (s : Value) (sk : List (Led0 × Value)), k ≤ n ∧ x = .int .i64 k ∧ CpI w wr A V l M (sw.map (·.1)) k s sk) (fun x _ => n - (intOf x).toNat)
  case atStart => exact ⟨0, _, _, Nat.zero_le _, rfl, HIV.out⟩
  case round =>
    obtain ⟨k, s, sk, hk, rfl, hiv⟩ := hrel
    have HI := hide hiv
    clear hiv HIV
    by_cases hlt : k < n
    · obtain ⟨⟨q, r⟩, hp⟩ : ∃ p, sw[k]? = some p := ⟨_, List.getElem?_eq_getElem (by have := HN.out; omega)⟩
      have HP := hide hp
      clear hp
      obtain ⟨g, c, hg⟩ := own_some HV.out.sl (by simp [ledW, HN.out]; omega)
      injection hg with hg1 hg2 hg3
      subst hg1
      clear hg2 hg3
      have HCw : Hid (CV wr 50 326 l.fl (ledW sw) [m] (.slice (some ⟨g, 0, none⟩) n sc)) := HV.out.keep (S := fun k => A ≤ k) ⟨HI.out.1.b.os, HI.out.1.b.tape, HI.out.1.b.output, HI.out.1.b.size, fun k _ hS => HI.out.1.b.block k (by omega)⟩ (fun k hk e => by have := HV.out.lt hk; have := HA.out; omega)
      obtain ⟨U, hU⟩ : ∃ U, q.vals r nilS = U := ⟨_, rfl⟩
      have HQ := hide (HS.out _ (List.mem_of_getElem? HP.out)).1
      have HQF : Hid (FlV wr q.fl [r]) := HCw.out.ea (q.fl, [r]) (List.mem_map.2 ⟨(q, r), List.mem_of_getElem? HP.out, rfl⟩)
      have HUl : Hid (U.length = 326) := by rw [← hU]; exact Led0.len HQ.out _ _
      have HU1 : Hid (∀ u ∈ U, u.oneCell' = true) := by
        rw [← hU]
        refine Led0.one q ?_ rfl
        obtain ⟨a, c, rfl⟩ := own_form (HQF.out.2 0 _ r rfl rfl)
        rfl
      have HUR : Hid (wr.rangeAt g (k * 326) U) := by
        have h1 := own_range HCw.out.sl
        rw [ledW_flat] at h1
        rw [← hU]
        exact range_flat (f := fun p : Led0 × Value => p.1.vals p.2 nilS) (fun p hp => Led0.len (HS.out p hp).1 _ _) h1 HP.out
      have HUe := hide hU
      clear hU
      go_wp2_with fail
      simp only [Try.sizeOf50, Result.andThen]
      rw [Oper.upon_value]
      go_wp2_with fail
      simp only [Try.isAgg50, Try.sizeOf50, Result.andThen, ↓reduceIte, ldC wr g (k * 326) U 326 HUl.out HUR.out]
      rw [Oper.upon_value]
      go_wp2_with fail
      simp only [Try.sizeOf50, Result.andThen, HUl.out, ↓reduceIte, stNew wr 50 Try.zeroCells50 U 326 Try.sz50 Try.zs50 HUl.out HU1.out]
      rw [Oper.upon_skip]
      go_upto_region 8 with fail
      have HI7 := hide (HI.out.below (be1 wr (.cells U.toArray 50)) HA.out.symm)
      have HQ7 := hide (HQF.out.keep (S := fun _ => False) (Ex.of (be1 wr (.cells U.toArray 50))) (fun _ _ e => e))
      have HRY := hide (newR wr U 50)
      have HYg : Hid (A + 3 ≤ wr.heap.size) := HI.out.1.e
      have HNY : Hid (s.ownBlock ≠ some wr.heap.size) := fun e => by have := HI.out.2.1.lt (mem_blks.2 ⟨s, by simp, e⟩); omega
      have HYl : Hid (wr.heap.size < (wr.alloc (.cells U.toArray 50)).heap.size) := by simp [Hid]
      generalize wr.alloc (.cells U.toArray 50) = w7 at *
      obtain ⟨Y, hY⟩ : ∃ Y, wr.heap.size = Y := ⟨_, rfl⟩
      rw [hY] at HRY HYg HYl HNY ⊢
      clear hY HI HQF HUR HCw
      have HNS : Hid (∀ j, s.ownBlock = some j → A + 3 ≤ j) := fun j hj => HI7.out.2.2.2.1 j (mem_blks.2 ⟨s, by simp, hj⟩)
      have HSL : Hid (sk.length = k) := by have := congrArg List.length HI7.out.2.2.1; simp [HN.out] at this; show sk.length = k; omega
      have c7 := HI7.out.c325 HO.out
      refine wp_region_held_drew (S := fun w' => w'.rangeAt Y 0 U) (by kernel_rfl) HRY.out (fun hHeld => ?_)
      refine wpAnyH_take (i := 0) (v := ?_) rfl (by kernel_rfl) (by kernel_rfl) (by kernel_rfl) (fun _ _ _ h => h) (Or.inl ⟨by rfl, ?_⟩) (by assumption) ?_
      rotate_left
      · (intro w hSw; (try dsimp only at hSw); go_simp; try (with_reducible rfl))
      try simp only [Act.put, List.getElem_toArray, List.getElem_cons_zero, List.getElem_cons_succ, List.setIfInBounds_toArray, List.set_cons_zero, List.set_cons_succ]
      refine wpAnyH_take (i := 2) rfl (by kernel_rfl) (by kernel_rfl) (by kernel_rfl) (fun _ _ _ h => h) (yieldsIf_load_mid (by rfl) 50 (.tmp 5) rfl Y 0 rfl U _ (fun w hSw => hSw) Try.underlying50 rfl (by rw [HUl.out]; exact Try.sz50)) (by assumption) ?_
      try simp only [Act.put, List.getElem_toArray, List.getElem_cons_zero, List.getElem_cons_succ, List.setIfInBounds_toArray, List.set_cons_zero, List.set_cons_succ]
      have HCL := hide ((HREC.out (by rintro rfl; exact absurd HP.out (by simp)) w7.drew q r HQ.out (HS.out _ (List.mem_of_getElem? HP.out)).2 HQ7.out))
      rw [HUe.out] at HCL
      refine wpAnyH_ready (rs := [1, 3]) (by kernel_rfl) (by simp) ?_
      refine (AllReadyH.cons rfl (fun K hK => ?_) (AllReadyH.cons rfl (fun K hK => ?_) AllReadyH.nil))
      · go_simp
        refine hK.out _ _ HRY.out (fun hHeld => ?_)
        clear hK K
        try simp only [Act.put, List.getElem_toArray, List.getElem_cons_zero, List.getElem_cons_succ, List.setIfInBounds_toArray, List.set_cons_zero, List.set_cons_succ]
        refine wpAnyH_ready (rs := [3]) (by kernel_rfl) (by simp) ?_
        refine (AllReadyH.cons rfl (fun K hK => ?_) AllReadyH.nil)
        refine step_call rfl 76 #[.agg U.toArray] (by simp [go_sem]) HCL.out ?_
        rintro e w8 ⟨r', s8, sw8, rfl, b8, e8, cv8, nb8, ns8⟩
        have hsw8 : sw8 = [] := List.map_eq_nil_iff.1 e8
        subst hsw8
        have hs8 := ns8 rfl
        subst hs8
        have HB8 := hide (of_drw b8)
        have HI8 := hide (HI7.out.below HB8.out HA.out.symm)
        have HQ8 : Hid (FlV w8 q.fl [r']) := cv8.fl
        have HNB8 : Hid (∀ j, r'.ownBlock = some j → w7.heap.size ≤ j) := fun j hj => nb8 j (mem_blks.2 ⟨r', by simp, hj⟩)
        have c8 := HI8.out.c325 HO.out
        clear b8 e8 cv8 nb8 ns8 HCL
        obtain ⟨U8, hU8⟩ : ∃ U, q.vals r' nilS = U := ⟨_, rfl⟩
        have HU8l : Hid (U8.length = 326) := by rw [← hU8]; exact Led0.len HQ.out _ _
        have HU81 : Hid (∀ u ∈ U8, u.oneCell' = true) := by
          rw [← hU8]
          refine Led0.one q ?_ rfl
          obtain ⟨a, c, rfl⟩ := own_form (HQ8.out.2 0 _ r' rfl rfl)
          rfl
        rw [hU8]
        have HU8e := hide hU8
        clear hU8
        refine ⟨_, rfl, ?_⟩
        refine hK.out _ _ (range_below HRY.out HYl.out HB8.out) (fun hHeld => ?_)
        clear hK K
        try simp only [Act.put, List.getElem_toArray, List.getElem_cons_zero, List.getElem_cons_succ, List.setIfInBounds_toArray, List.set_cons_zero, List.set_cons_succ]
        refine wpAnyH_ready (rs := [4]) (by kernel_rfl) (by simp) ?_
        refine (AllReadyH.cons rfl (fun K hK => ?_) AllReadyH.nil)
        refine step_buildS rfl 48 50 (.tmp 25) rfl U8 rfl i5 _ 326 2640 Try.underlying48 HI5.out.1 HI5.out.2.1 HI5.out.2.2.1 HI5.out.2.2.2 HU8l.out (by decide) (by decide) ?_
        have b9 := be1 w8 (.cells U8.toArray 50)
        have HB9 := hide (lec HB8.out b9)
        have HI9 := hide (HI8.out.below b9 HA.out.symm)
        have HQ9 := hide (HQ8.out.keep (S := fun _ => False) (Ex.of b9) (fun _ _ e => e))
        have HN9 := hide (newR w8 U8 50)
        refine hK.out _ _ (range_below HRY.out HYl.out HB9.out) (fun hHeld => ?_)
        clear hK K b9 c8 c7
        try simp only [Act.put, List.getElem_toArray, List.getElem_cons_zero, List.getElem_cons_succ, List.setIfInBounds_toArray, List.set_cons_zero, List.set_cons_succ]
        generalize w8.alloc (.cells U8.toArray 50) = w9 at *
        refine wpAnyH_ready (rs := [5]) (by kernel_rfl) (by simp) ?_
        refine (AllReadyH.cons rfl (fun K hK => ?_) AllReadyH.nil)
        refine step_append_lies _ rfl (.tmp 23) (.tmp 26) 48 rfl 0 50 i5 _ 326 2640 Try.underlying48 HI5.out.1 HI5.out.2.1 HI5.out.2.2.1 HI5.out.2.2.2 Try.zs50 (by decide) s (ledW sk).length _ rfl HI9.out.2.1.sl ⟨w8.heap.size, 0, none⟩ 1 1 U8 rfl (by rw [HU8l.out]) (fun j u hj => by rw [Addr.add_mid]; exact HN9.out j u hj) HU81.out (by decide) (by unfold maxLen; simp [ledW, HSL.out]; omega) (by simp [ledW, HSL.out]; omega) (Nat.zero_le _) _ rfl ?_
        intro g2 cap2 wa hown hgrow hat hlt2
        have hl9 : (ledW sk).length = k := by simp [ledW, HSL.out]
        rw [hl9] at hown ⊢
        have HCa : Hid (CV wa 50 326 l.fl (ledW (sk ++ [(q, r')])) [M] (.slice (some ⟨g2, 0, none⟩) (k + 1) cap2)) := by
          have := CV.push (q := q.fl) (us := [r']) HI9.out.2.1 hgrow (s' := .slice (some ⟨g2, 0, none⟩) (k + 1) cap2) (by rw [hl9, show q.fl.lay [r'] nilS = q.vals r' nilS from rfl, HU8e.out]; exact hown) (fun j hj => by
            have e : g2 = j := by simpa [Value.ownBlock] using hj
            subst e
            exact hat.imp id fun z => by rw [z]; exact Nat.le_refl _) HQ9.out (by rw [blks_cons]; cases r'.ownBlock <;> simp [blks]) (fun j hj hx => by
            obtain ⟨v, hv, ev⟩ := mem_blks.1 hj
            have e : v = r' := by simpa using hv
            subst e
            have h1 := HNB8.out j ev
            have h2 := HI7.out.2.1.lt hx
            omega)
          rw [show ledW (sk ++ [(q, r')]) = ledW sk ++ [(q.fl, [r'])] by simp [ledW]]
          exact this
        have exa := Ex.ofGrown (S := fun j => s.ownBlock = some j) hgrow (fun j e => e.symm)
        have HSa := hide (HI9.out.1.ex exa (fun j hj e => by have := HNS.out j e; omega) HA.out.symm)
        have HGa : Hid (A + 3 ≤ g2) := by show A + 3 ≤ g2; rcases hat with z | z; exact HNS.out _ z; have := HI9.out.1.e; omega
        have HRYa : Hid (wa.rangeAt Y 0 U) := range_ex (range_below HRY.out HYl.out HB9.out) (Nat.lt_of_lt_of_le HYl.out HB9.out.size) exa (fun e => by exact HNY.out e)
        clear hown hgrow hat hlt2 exa hl9
        refine hK.out _ _ HRYa.out (fun hHeld => ?_)
        clear hK K
        try simp only [Act.put, List.getElem_toArray, List.getElem_cons_zero, List.getElem_cons_succ, List.setIfInBounds_toArray, List.set_cons_zero, List.set_cons_succ]
        refine wpAnyH_take (i := 6) (v := ?_) rfl (by kernel_rfl) (by kernel_rfl) (by kernel_rfl) (fun _ _ _ h => h) (Or.inl ⟨by rfl, ?_⟩) (by assumption) ?_
        rotate_left
        · (intro w hSw; (try dsimp only at hSw); go_simp; try (with_reducible rfl))
        try simp only [Act.put, List.getElem_toArray, List.getElem_cons_zero, List.getElem_cons_succ, List.setIfInBounds_toArray, List.set_cons_zero, List.set_cons_succ]
        have ca : wa.cell? ⟨A + 2, 325, none⟩ = some s := by have := HSa.out.x 325 s (Led0.at325 HO.out _ _); simpa using this
        have fa : wa.frozen? ⟨A + 2, 325, none⟩ = false := by have := (HSa.out.tx 325 (by omega)).2; simpa using this
        refine wpAnyH_ready (rs := [7]) (by kernel_rfl) (by simp) ?_
        refine (AllReadyH.cons rfl (fun K hK => ?_) AllReadyH.nil)
        go_simp
        refine hK.out _ _ (range_set_ne HRYa.out (by have := HYg.out; omega) 325 _) (fun hHeld => ?_)
        clear hK K
        try simp only [Act.put, List.getElem_toArray, List.getElem_cons_zero, List.getElem_cons_succ, List.setIfInBounds_toArray, List.set_cons_zero, List.set_cons_succ]
        refine wpAnyH_done (by kernel_rfl) ?_ _
        have HSb := hide (HSa.out.set 325 (.slice (some ⟨g2, 0, none⟩) (k + 1) cap2))
        rw [Led0.set325 HO.out] at HSb
        have hnb : ∀ j, j ∈ blks ([M] ++ Value.slice (some ⟨g2, 0, none⟩) (k + 1) cap2 :: (ledW (sk ++ [(q, r')])).flatMap (·.2)) → A + 3 ≤ j := fun j hj => by
          obtain ⟨v, hv, ev⟩ := mem_blks.1 hj
          simp only [List.mem_append, List.mem_cons, List.not_mem_nil, or_false, ledW, List.map_append, List.flatMap_append, List.map_cons, List.map_nil, List.flatMap_cons, List.flatMap_nil, List.append_nil] at hv
          rcases hv with rfl | rfl | hv | rfl
          · exact HI7.out.2.2.2.1 j (mem_blks.2 ⟨_, by simp, ev⟩)
          · have e : g2 = j := by simpa [Value.ownBlock] using ev
            rw [← e]; exact HGa.out
          · exact HI7.out.2.2.2.1 j (mem_blks.2 ⟨v, List.mem_append_right _ (List.mem_cons_of_mem _ hv), ev⟩)
          · have h1 := HNB8.out j ev
            have h2 := HI7.out.1.e
            omega
        have HIb : Hid (CpI w (wa.setCell ⟨A + 2, 325, none⟩ (.slice (some ⟨g2, 0, none⟩) (k + 1) cap2)) A V l M (sw.map (·.1)) (k + 1) (.slice (some ⟨g2, 0, none⟩) (k + 1) cap2) (sk ++ [(q, r')])) := by
          refine ⟨HSb.out, HCa.out.keep (S := fun j => j = A + 2) ((Ex.refl (fun j => j = A + 2) _).set rfl _) (fun j hj e => by have := hnb j hj; omega), ?_, hnb, fun e => by omega⟩
          rw [List.map_append, HI7.out.2.2.1, List.take_add_one]
          simp [HP.out]
        clear hnb HCa HSb HSa HGa HRYa ca fa HI9 HQ9 HN9 HB9 HI8 HQ8 HB8 HNB8 HU8l HU81 HU8e hHeld
        generalize wa.setCell ⟨A + 2, 325, none⟩ (.slice (some ⟨g2, 0, none⟩) (k + 1) cap2) = wb at *
        go_wp2
        go_roundw
        case rel => exact ⟨k + 1, _, _, by omega, by go_num, HIb.out⟩
        case measure => simp [intOf]; omega
      · refine step_call rfl 76 #[.agg U.toArray] (by simp [go_sem]) HCL.out ?_
        rintro e w8 ⟨r', s8, sw8, rfl, b8, e8, cv8, nb8, ns8⟩
        have hsw8 : sw8 = [] := List.map_eq_nil_iff.1 e8
        subst hsw8
        have hs8 := ns8 rfl
        subst hs8
        have HB8 := hide (of_drw b8)
        have HI8 := hide (HI7.out.below HB8.out HA.out.symm)
        have HQ8 : Hid (FlV w8 q.fl [r']) := cv8.fl
        have HNB8 : Hid (∀ j, r'.ownBlock = some j → w7.heap.size ≤ j) := fun j hj => nb8 j (mem_blks.2 ⟨r', by simp, hj⟩)
        have c8 := HI8.out.c325 HO.out
        clear b8 e8 cv8 nb8 ns8 HCL
        obtain ⟨U8, hU8⟩ : ∃ U, q.vals r' nilS = U := ⟨_, rfl⟩
        have HU8l : Hid (U8.length = 326) := by rw [← hU8]; exact Led0.len HQ.out _ _
        have HU81 : Hid (∀ u ∈ U8, u.oneCell' = true) := by
          rw [← hU8]
          refine Led0.one q ?_ rfl
          obtain ⟨a, c, rfl⟩ := own_form (HQ8.out.2 0 _ r' rfl rfl)
          rfl
        rw [hU8]
        have HU8e := hide hU8
        clear hU8
        refine ⟨_, rfl, ?_⟩
        refine hK.out _ _ (range_below HRY.out HYl.out HB8.out) (fun hHeld => ?_)
        clear hK K
        try simp only [Act.put, List.getElem_toArray, List.getElem_cons_zero, List.getElem_cons_succ, List.setIfInBounds_toArray, List.set_cons_zero, List.set_cons_succ]
        refine wpAnyH_ready (rs := [1, 4]) (by kernel_rfl) (by simp) ?_
        refine (AllReadyH.cons rfl (fun K hK => ?_) (AllReadyH.cons rfl (fun K hK => ?_) AllReadyH.nil))
        · go_simp
          refine hK.out _ _ (range_below HRY.out HYl.out HB8.out) (fun hHeld => ?_)
          clear hK K
          try simp only [Act.put, List.getElem_toArray, List.getElem_cons_zero, List.getElem_cons_succ, List.setIfInBounds_toArray, List.set_cons_zero, List.set_cons_succ]
          refine wpAnyH_ready (rs := [4]) (by kernel_rfl) (by simp) ?_
          refine (AllReadyH.cons rfl (fun K hK => ?_) AllReadyH.nil)
          refine step_buildS rfl 48 50 (.tmp 25) rfl U8 rfl i5 _ 326 2640 Try.underlying48 HI5.out.1 HI5.out.2.1 HI5.out.2.2.1 HI5.out.2.2.2 HU8l.out (by decide) (by decide) ?_
          have b9 := be1 w8 (.cells U8.toArray 50)
          have HB9 := hide (lec HB8.out b9)
          have HI9 := hide (HI8.out.below b9 HA.out.symm)
          have HQ9 := hide (HQ8.out.keep (S := fun _ => False) (Ex.of b9) (fun _ _ e => e))
          have HN9 := hide (newR w8 U8 50)
          refine hK.out _ _ (range_below HRY.out HYl.out HB9.out) (fun hHeld => ?_)
          clear hK K b9 c8 c7
          try simp only [Act.put, List.getElem_toArray, List.getElem_cons_zero, List.getElem_cons_succ, List.setIfInBounds_toArray, List.set_cons_zero, List.set_cons_succ]
          generalize w8.alloc (.cells U8.toArray 50) = w9 at *
          refine wpAnyH_ready (rs := [5]) (by kernel_rfl) (by simp) ?_
          refine (AllReadyH.cons rfl (fun K hK => ?_) AllReadyH.nil)
          refine step_append_lies _ rfl (.tmp 23) (.tmp 26) 48 rfl 0 50 i5 _ 326 2640 Try.underlying48 HI5.out.1 HI5.out.2.1 HI5.out.2.2.1 HI5.out.2.2.2 Try.zs50 (by decide) s (ledW sk).length _ rfl HI9.out.2.1.sl ⟨w8.heap.size, 0, none⟩ 1 1 U8 rfl (by rw [HU8l.out]) (fun j u hj => by rw [Addr.add_mid]; exact HN9.out j u hj) HU81.out (by decide) (by unfold maxLen; simp [ledW, HSL.out]; omega) (by simp [ledW, HSL.out]; omega) (Nat.zero_le _) _ rfl ?_
          intro g2 cap2 wa hown hgrow hat hlt2
          have hl9 : (ledW sk).length = k := by simp [ledW, HSL.out]
          rw [hl9] at hown ⊢
          have HCa : Hid (CV wa 50 326 l.fl (ledW (sk ++ [(q, r')])) [M] (.slice (some ⟨g2, 0, none⟩) (k + 1) cap2)) := by
            have := CV.push (q := q.fl) (us := [r']) HI9.out.2.1 hgrow (s' := .slice (some ⟨g2, 0, none⟩) (k + 1) cap2) (by rw [hl9, show q.fl.lay [r'] nilS = q.vals r' nilS from rfl, HU8e.out]; exact hown) (fun j hj => by
              have e : g2 = j := by simpa [Value.ownBlock] using hj
              subst e
              exact hat.imp id fun z => by rw [z]; exact Nat.le_refl _) HQ9.out (by rw [blks_cons]; cases r'.ownBlock <;> simp [blks]) (fun j hj hx => by
              obtain ⟨v, hv, ev⟩ := mem_blks.1 hj
              have e : v = r' := by simpa using hv
              subst e
              have h1 := HNB8.out j ev
              have h2 := HI7.out.2.1.lt hx
              omega)
            rw [show ledW (sk ++ [(q, r')]) = ledW sk ++ [(q.fl, [r'])] by simp [ledW]]
            exact this
          have exa := Ex.ofGrown (S := fun j => s.ownBlock = some j) hgrow (fun j e => e.symm)
          have HSa := hide (HI9.out.1.ex exa (fun j hj e => by have := HNS.out j e; omega) HA.out.symm)
          have HGa : Hid (A + 3 ≤ g2) := by show A + 3 ≤ g2; rcases hat with z | z; exact HNS.out _ z; have := HI9.out.1.e; omega
          have HRYa : Hid (wa.rangeAt Y 0 U) := range_ex (range_below HRY.out HYl.out HB9.out) (Nat.lt_of_lt_of_le HYl.out HB9.out.size) exa (fun e => by exact HNY.out e)
          clear hown hgrow hat hlt2 exa hl9
          refine hK.out _ _ HRYa.out (fun hHeld => ?_)
          clear hK K
          try simp only [Act.put, List.getElem_toArray, List.getElem_cons_zero, List.getElem_cons_succ, List.setIfInBounds_toArray, List.set_cons_zero, List.set_cons_succ]
          refine wpAnyH_take (i := 6) (v := ?_) rfl (by kernel_rfl) (by kernel_rfl) (by kernel_rfl) (fun _ _ _ h => h) (Or.inl ⟨by rfl, ?_⟩) (by assumption) ?_
          rotate_left
          · (intro w hSw; (try dsimp only at hSw); go_simp; try (with_reducible rfl))
          try simp only [Act.put, List.getElem_toArray, List.getElem_cons_zero, List.getElem_cons_succ, List.setIfInBounds_toArray, List.set_cons_zero, List.set_cons_succ]
          have ca : wa.cell? ⟨A + 2, 325, none⟩ = some s := by have := HSa.out.x 325 s (Led0.at325 HO.out _ _); simpa using this
          have fa : wa.frozen? ⟨A + 2, 325, none⟩ = false := by have := (HSa.out.tx 325 (by omega)).2; simpa using this
          refine wpAnyH_ready (rs := [7]) (by kernel_rfl) (by simp) ?_
          refine (AllReadyH.cons rfl (fun K hK => ?_) AllReadyH.nil)
          go_simp
          refine hK.out _ _ (range_set_ne HRYa.out (by have := HYg.out; omega) 325 _) (fun hHeld => ?_)
          clear hK K
          try simp only [Act.put, List.getElem_toArray, List.getElem_cons_zero, List.getElem_cons_succ, List.setIfInBounds_toArray, List.set_cons_zero, List.set_cons_succ]
          refine wpAnyH_done (by kernel_rfl) ?_ _
          have HSb := hide (HSa.out.set 325 (.slice (some ⟨g2, 0, none⟩) (k + 1) cap2))
          rw [Led0.set325 HO.out] at HSb
          have hnb : ∀ j, j ∈ blks ([M] ++ Value.slice (some ⟨g2, 0, none⟩) (k + 1) cap2 :: (ledW (sk ++ [(q, r')])).flatMap (·.2)) → A + 3 ≤ j := fun j hj => by
            obtain ⟨v, hv, ev⟩ := mem_blks.1 hj
            simp only [List.mem_append, List.mem_cons, List.not_mem_nil, or_false, ledW, List.map_append, List.flatMap_append, List.map_cons, List.map_nil, List.flatMap_cons, List.flatMap_nil, List.append_nil] at hv
            rcases hv with rfl | rfl | hv | rfl
            · exact HI7.out.2.2.2.1 j (mem_blks.2 ⟨_, by simp, ev⟩)
            · have e : g2 = j := by simpa [Value.ownBlock] using ev
              rw [← e]; exact HGa.out
            · exact HI7.out.2.2.2.1 j (mem_blks.2 ⟨v, List.mem_append_right _ (List.mem_cons_of_mem _ hv), ev⟩)
            · have h1 := HNB8.out j ev
              have h2 := HI7.out.1.e
              omega
          have HIb : Hid (CpI w (wa.setCell ⟨A + 2, 325, none⟩ (.slice (some ⟨g2, 0, none⟩) (k + 1) cap2)) A V l M (sw.map (·.1)) (k + 1) (.slice (some ⟨g2, 0, none⟩) (k + 1) cap2) (sk ++ [(q, r')])) := by
            refine ⟨HSb.out, HCa.out.keep (S := fun j => j = A + 2) ((Ex.refl (fun j => j = A + 2) _).set rfl _) (fun j hj e => by have := hnb j hj; omega), ?_, hnb, fun e => by omega⟩
            rw [List.map_append, HI7.out.2.2.1, List.take_add_one]
            simp [HP.out]
          clear hnb HCa HSb HSa HGa HRYa ca fa HI9 HQ9 HN9 HB9 HI8 HQ8 HB8 HNB8 HU8l HU81 HU8e hHeld
          generalize wa.setCell ⟨A + 2, 325, none⟩ (.slice (some ⟨g2, 0, none⟩) (k + 1) cap2) = wb at *
          go_wp2
          go_roundw
          case rel => exact ⟨k + 1, _, _, by omega, by go_num, HIb.out⟩
          case measure => simp [intOf]; omega
        · refine step_buildS rfl 48 50 (.tmp 25) rfl U8 rfl i5 _ 326 2640 Try.underlying48 HI5.out.1 HI5.out.2.1 HI5.out.2.2.1 HI5.out.2.2.2 HU8l.out (by decide) (by decide) ?_
          have b9 := be1 w8 (.cells U8.toArray 50)
          have HB9 := hide (lec HB8.out b9)
          have HI9 := hide (HI8.out.below b9 HA.out.symm)
          have HQ9 := hide (HQ8.out.keep (S := fun _ => False) (Ex.of b9) (fun _ _ e => e))
          have HN9 := hide (newR w8 U8 50)
          refine hK.out _ _ (range_below HRY.out HYl.out HB9.out) (fun hHeld => ?_)
          clear hK K b9 c8 c7
          try simp only [Act.put, List.getElem_toArray, List.getElem_cons_zero, List.getElem_cons_succ, List.setIfInBounds_toArray, List.set_cons_zero, List.set_cons_succ]
          generalize w8.alloc (.cells U8.toArray 50) = w9 at *
          have c9 := HI9.out.c325 HO.out
          refine wpAnyH_ready (rs := [1]) (by kernel_rfl) (by simp) ?_
          refine (AllReadyH.cons rfl (fun K hK => ?_) AllReadyH.nil)
          go_simp
          refine hK.out _ _ (range_below HRY.out HYl.out HB9.out) (fun hHeld => ?_)
          clear hK K c9
          try simp only [Act.put, List.getElem_toArray, List.getElem_cons_zero, List.getElem_cons_succ, List.setIfInBounds_toArray, List.set_cons_zero, List.set_cons_succ]
          refine wpAnyH_ready (rs := [5]) (by kernel_rfl) (by simp) ?_
          refine (AllReadyH.cons rfl (fun K hK => ?_) AllReadyH.nil)
          refine step_append_lies _ rfl (.tmp 23) (.tmp 26) 48 rfl 0 50 i5 _ 326 2640 Try.underlying48 HI5.out.1 HI5.out.2.1 HI5.out.2.2.1 HI5.out.2.2.2 Try.zs50 (by decide) s (ledW sk).length _ rfl HI9.out.2.1.sl ⟨w8.heap.size, 0, none⟩ 1 1 U8 rfl (by rw [HU8l.out]) (fun j u hj => by rw [Addr.add_mid]; exact HN9.out j u hj) HU81.out (by decide) (by unfold maxLen; simp [ledW, HSL.out]; omega) (by simp [ledW, HSL.out]; omega) (Nat.zero_le _) _ rfl ?_
          intro g2 cap2 wa hown hgrow hat hlt2
          have hl9 : (ledW sk).length = k := by simp [ledW, HSL.out]
          rw [hl9] at hown ⊢
          have HCa : Hid (CV wa 50 326 l.fl (ledW (sk ++ [(q, r')])) [M] (.slice (some ⟨g2, 0, none⟩) (k + 1) cap2)) := by
            have := CV.push (q := q.fl) (us := [r']) HI9.out.2.1 hgrow (s' := .slice (some ⟨g2, 0, none⟩) (k + 1) cap2) (by rw [hl9, show q.fl.lay [r'] nilS = q.vals r' nilS from rfl, HU8e.out]; exact hown) (fun j hj => by
              have e : g2 = j := by simpa [Value.ownBlock] using hj
              subst e
              exact hat.imp id fun z => by rw [z]; exact Nat.le_refl _) HQ9.out (by rw [blks_cons]; cases r'.ownBlock <;> simp [blks]) (fun j hj hx => by
              obtain ⟨v, hv, ev⟩ := mem_blks.1 hj
              have e : v = r' := by simpa using hv
              subst e
              have h1 := HNB8.out j ev
              have h2 := HI7.out.2.1.lt hx
              omega)
            rw [show ledW (sk ++ [(q, r')]) = ledW sk ++ [(q.fl, [r'])] by simp [ledW]]
            exact this
          have exa := Ex.ofGrown (S := fun j => s.ownBlock = some j) hgrow (fun j e => e.symm)
          have HSa := hide (HI9.out.1.ex exa (fun j hj e => by have := HNS.out j e; omega) HA.out.symm)
          have HGa : Hid (A + 3 ≤ g2) := by show A + 3 ≤ g2; rcases hat with z | z; exact HNS.out _ z; have := HI9.out.1.e; omega
          have HRYa : Hid (wa.rangeAt Y 0 U) := range_ex (range_below HRY.out HYl.out HB9.out) (Nat.lt_of_lt_of_le HYl.out HB9.out.size) exa (fun e => by exact HNY.out e)
          clear hown hgrow hat hlt2 exa hl9
          refine hK.out _ _ HRYa.out (fun hHeld => ?_)
          clear hK K
          try simp only [Act.put, List.getElem_toArray, List.getElem_cons_zero, List.getElem_cons_succ, List.setIfInBounds_toArray, List.set_cons_zero, List.set_cons_succ]
          refine wpAnyH_take (i := 6) (v := ?_) rfl (by kernel_rfl) (by kernel_rfl) (by kernel_rfl) (fun _ _ _ h => h) (Or.inl ⟨by rfl, ?_⟩) (by assumption) ?_
          rotate_left
          · (intro w hSw; (try dsimp only at hSw); go_simp; try (with_reducible rfl))
          try simp only [Act.put, List.getElem_toArray, List.getElem_cons_zero, List.getElem_cons_succ, List.setIfInBounds_toArray, List.set_cons_zero, List.set_cons_succ]
          have ca : wa.cell? ⟨A + 2, 325, none⟩ = some s := by have := HSa.out.x 325 s (Led0.at325 HO.out _ _); simpa using this
          have fa : wa.frozen? ⟨A + 2, 325, none⟩ = false := by have := (HSa.out.tx 325 (by omega)).2; simpa using this
          refine wpAnyH_ready (rs := [7]) (by kernel_rfl) (by simp) ?_
          refine (AllReadyH.cons rfl (fun K hK => ?_) AllReadyH.nil)
          go_simp
          refine hK.out _ _ (range_set_ne HRYa.out (by have := HYg.out; omega) 325 _) (fun hHeld => ?_)
          clear hK K
          try simp only [Act.put, List.getElem_toArray, List.getElem_cons_zero, List.getElem_cons_succ, List.setIfInBounds_toArray, List.set_cons_zero, List.set_cons_succ]
          refine wpAnyH_done (by kernel_rfl) ?_ _
          have HSb := hide (HSa.out.set 325 (.slice (some ⟨g2, 0, none⟩) (k + 1) cap2))
          rw [Led0.set325 HO.out] at HSb
          have hnb : ∀ j, j ∈ blks ([M] ++ Value.slice (some ⟨g2, 0, none⟩) (k + 1) cap2 :: (ledW (sk ++ [(q, r')])).flatMap (·.2)) → A + 3 ≤ j := fun j hj => by
            obtain ⟨v, hv, ev⟩ := mem_blks.1 hj
            simp only [List.mem_append, List.mem_cons, List.not_mem_nil, or_false, ledW, List.map_append, List.flatMap_append, List.map_cons, List.map_nil, List.flatMap_cons, List.flatMap_nil, List.append_nil] at hv
            rcases hv with rfl | rfl | hv | rfl
            · exact HI7.out.2.2.2.1 j (mem_blks.2 ⟨_, by simp, ev⟩)
            · have e : g2 = j := by simpa [Value.ownBlock] using ev
              rw [← e]; exact HGa.out
            · exact HI7.out.2.2.2.1 j (mem_blks.2 ⟨v, List.mem_append_right _ (List.mem_cons_of_mem _ hv), ev⟩)
            · have h1 := HNB8.out j ev
              have h2 := HI7.out.1.e
              omega
          have HIb : Hid (CpI w (wa.setCell ⟨A + 2, 325, none⟩ (.slice (some ⟨g2, 0, none⟩) (k + 1) cap2)) A V l M (sw.map (·.1)) (k + 1) (.slice (some ⟨g2, 0, none⟩) (k + 1) cap2) (sk ++ [(q, r')])) := by
            refine ⟨HSb.out, HCa.out.keep (S := fun j => j = A + 2) ((Ex.refl (fun j => j = A + 2) _).set rfl _) (fun j hj e => by have := hnb j hj; omega), ?_, hnb, fun e => by omega⟩
            rw [List.map_append, HI7.out.2.2.1, List.take_add_one]
            simp [HP.out]
          clear hnb HCa HSb HSa HGa HRYa ca fa HI9 HQ9 HN9 HB9 HI8 HQ8 HB8 HNB8 HU8l HU81 HU8e hHeld
          generalize wa.setCell ⟨A + 2, 325, none⟩ (.slice (some ⟨g2, 0, none⟩) (k + 1) cap2) = wb at *
          go_wp2
          go_roundw
          case rel => exact ⟨k + 1, _, _, by omega, by go_num, HIb.out⟩
          case measure => simp [intOf]; omega
    · obtain rfl : k = n := by omega
      obtain ⟨F, hF⟩ : ∃ F, l.vals M s = F := ⟨_, rfl⟩
      have HFl : Hid (F.length = 326) := by rw [← hF]; exact Led0.len HO.out _ _
      have HF1 : Hid (∀ u ∈ F, u.oneCell' = true) := by
        rw [← hF]
        refine Led0.one l ?_ ?_
        · obtain ⟨a, c, rfl⟩ := own_form (HI.out.2.1.fl.2 0 _ M rfl rfl); rfl
        · obtain ⟨a, c, rfl⟩ := own_form HI.out.2.1.sl; rfl
      have HX : Hid (wr.rangeAt (A + 2) 0 F) := by rw [← hF]; exact HI.out.1.x
      have HFe := hide hF
      clear hF
      go_wp2_with fail
      simp only [Try.isAgg50, Try.sizeOf50, Result.andThen, ↓reduceIte, ldC wr (A + 2) 0 F 326 HFl.out HX.out]
      rw [Oper.upon_value]
      go_wp2_with fail
      simp only [Try.sizeOf50, Result.andThen, HFl.out, ↓reduceIte, stC wr (A + 1) 0 F (by rw [HFl.out]; exact HI.out.1.t) HF1.out]
      rw [Oper.upon_skip]
      have HRZ := hide (World.rangeAt_setCells_same wr (A + 1) 0 F (by rw [HFl.out]; exact HI.out.1.t))
      have ex2 : Ex (fun j => j = A + 1) wr (wr.setCells (A + 1) 0 F) := Ex.sets (S := fun j => j = A + 1) rfl F 0 wr (Ex.refl _ _)
      have HRR : Hid (R (.returned (.agg F.toArray)) (wr.setCells (A + 1) 0 F)) := by
        rw [← HR.out]
        refine ⟨M, s, sk, by rw [HFe.out], ?_, by rw [HI.out.2.2.1, List.take_of_length_le (by simp [HN.out])], HI.out.2.1.keep ex2 (fun j hj e => by have := HI.out.2.2.2.1 j hj; omega), fun j hj => by have := HI.out.2.2.2.1 j hj; have := HA.out; omega, fun e => HI.out.2.2.2.2 ?_⟩
        · rw [HA.out]
          exact HI.out.1.b.trans (ex2.below (by have := HI.out.1.e; omega) (fun j hj e => by omega))
        · have := congrArg List.length e
          simp [HN.out] at this
          exact this
      clear ex2
      generalize wr.setCells (A + 1) 0 F = wz at *
      go_wp2_with fail
      exact bodyPost_ret (v := .agg F.toArray) (res_cell Try.results76 rfl (run_loadVar_mid wz (A + 1) 0 50 F _ HRZ.out Try.underlying50 rfl (by rw [HFl.out]; exact Try.sz50))) rfl HRR.out
theorem copyL_flat (w : World) (q : Led0) (r : Value) (ho : q.Ok) (hm : q.mks.length ≤ 1000000000000) (hf : FlV w q.fl [r]) : Calls Try.prog 76 #[.agg (q.vals r nilS).toArray] w (CpL w q []) := by
  refine copyL_gen w q [] r nilS ho (fun p hp => by cases hp) ⟨hf, World.ownsRow_nil _ _ _ _, fun p hp => (by cases hp), ?_⟩ hm (by simp) (fun h => absurd rfl h)
  show (blks (r :: nilS :: [])).Nodup
  rw [blks_cons, blks_cons]
  cases r.ownBlock <;> simp [blks, Value.ownBlock]
/-- ledgerm.Copy -/
theorem copyL_any (w : World) (l : Led0) (sw : List (Led0 × Value)) (m s : Value) (ho : l.Ok) (hs : ∀ p, p ∈ sw → p.1.Ok ∧ p.1.mks.length ≤ 1000000000000) (hv : CV w 50 326 l.fl (ledW sw) [m] s) (hml : l.mks.length ≤ 1000000000000) (hsl : sw.length ≤ 1000) :
    Calls Try.prog 76 #[.agg (l.vals m s).toArray] w (CpL w l (sw.map (·.1))) :=
  copyL_gen w l sw m s ho hs hv hml hsl fun _ => copyL_flat
end Go.Proofs.Qxb6500784a
