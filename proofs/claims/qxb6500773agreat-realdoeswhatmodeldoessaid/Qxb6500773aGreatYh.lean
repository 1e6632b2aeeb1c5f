import Derived.Test.Qxb6500773aGreatYg
import Derived.Test.Qxb6500773aGreatMo
import Derived.Test.Qxb6500773aGreatOp2
namespace Go.Proofs.Qxb6500773aGreat
open Go.RowKit

/-- the model's bench, new -/
theorem mn_new (w : World) (B : Nat) (hB : B ≤ w.heap.size) (X : Nat → Prop) (hX : ∀ k, X k → k < w.heap.size) : MN (w.alloc (.cells #[.int .i64 0, .slice none 0 0, .slice none 0 0, .slice none 0 0, .int .i64 0, .slice none 0 0, .slice none 0 0, .slice none 0 0] 33)) B w.heap.size X (fun _ => .slice none 0 0) (fun _ _ => False) (QM B mst0) mst0.nv mst0.sv := by
  have hc : ∀ j v, [Value.int .i64 0, .slice none 0 0, .slice none 0 0, .slice none 0 0, .int .i64 0, .slice none 0 0, .slice none 0 0, .slice none 0 0][j]? = some v → (w.alloc (.cells #[.int .i64 0, .slice none 0 0, .slice none 0 0, .slice none 0 0, .int .i64 0, .slice none 0 0, .slice none 0 0, .slice none 0 0] 33)).cell? ⟨w.heap.size, j, none⟩ = some v := fun j v hj => by
    have := new_cells w [Value.int .i64 0, .slice none 0 0, .slice none 0 0, .slice none 0 0, .int .i64 0, .slice none 0 0, .slice none 0 0, .slice none 0 0] 33 j v hj
    rw [Addr.add_mid, Nat.zero_add] at this
    exact this
  refine ⟨six (hc 1 _ rfl) (hc 3 _ rfl) (hc 5 _ rfl) (hc 7 _ rfl) (hc 2 _ rfl) (hc 6 _ rfl), hc 0 _ rfl, hc 4 _ rfl, fun j => frozen_new w [Value.int .i64 0, .slice none 0 0, .slice none 0 0, .slice none 0 0, .int .i64 0, .slice none 0 0, .slice none 0 0, .slice none 0 0] 33 j, six (nil_fm _ _ _) (nil_pm _ _ _) (nil_fm _ _ _) (nil_pm _ _ _) (nil_am _ _) (nil_am _ _), fun _ _ _ z => z.elim, fun _ _ _ _ _ _ z => z.elim, fun _ _ z => z, hB, fun _ _ _ z => z.elim, fun z => by have := hX _ z; omega, six (fr_F B []) (fr_P B []) (fr_F B []) (fr_P B []) (fr_A []) (fr_A [])⟩
/-- no answer's text is long -/
theorem ob_len {z : Nat} {t : Mst} {a kd : Int} {L Y : List Int} (ht : MsOk z t) (hz : z ≤ 65536) (hL : L.length ≤ 65536) : (mtF t a L Y kd).2.X.length ≤ 2000000000000 := by
  unfold mtF
  split
  · next hk =>
    obtain ⟨j, hj⟩ : ∃ j : Nat, kd = (j : Int) := ⟨kd.toNat, by omega⟩
    have hj28 : j ≤ 28 := by omega
    rw [hj, Int.toNat_natCast]
    clear hj hk
    match j, hj28 with
    | 0, _ => exact Nat.zero_le _
    | 1, _ => exact Nat.zero_le _
    | 2, _ => (show (ite _ _ _ : Ob).X.length ≤ _; split <;> exact Nat.zero_le _)
    | 3, _ => (show (ite _ _ _ : Ob).X.length ≤ _; split <;> exact Nat.zero_le _)
    | 4, _ => (show (ite _ _ _ : Ob).X.length ≤ _; split <;> exact Nat.zero_le _)
    | 5, _ => (show (ite _ _ _ : Ob).X.length ≤ _; split <;> exact Nat.zero_le _)
    | 6, _ => exact Nat.zero_le _
    | 7, _ => (show (ite _ _ _ : Ob).X.length ≤ _; split <;> exact Nat.zero_le _)
    | 8, _ => (show (ite _ _ _ : Ob).X.length ≤ _; split <;> exact Nat.zero_le _)
    | 9, _ => (show (ite _ _ _ : Ob).X.length ≤ _; split <;> exact Nat.zero_le _)
    | 10, _ => exact Nat.zero_le _
    | 11, _ => exact Nat.zero_le _
    | 12, _ =>
      show (ite _ _ _ : Ob).X.length ≤ _
      split
      · next hn =>
        have := pcP_len (z := 65536) (C := srP L) (Nat.le_refl _) (by have := srP_len L L.length; rw [List.take_length] at this; omega) (fun x hx => (ncE_di hn x (((sr_all L).1 x).1 hx)).1)
        show (pcP (srP L)).length ≤ _
        omega
      · exact Nat.zero_le _
    | 13, _ =>
      have := pcP_len (z := 65536) (C := srP t.A) (Nat.le_refl _) (by have := srP_len t.A t.A.length; rw [List.take_length] at this; have := ht.A.len; omega) (fun x hx => (ht.A.mem x (((sr_all t.A).1 x).1 hx)).1)
      show (pcP (srP t.A)).length ≤ _
      omega
    | 14, _ => (show (fm14 t (fmP Y)).2.X.length ≤ _; cases fmP Y <;> exact Nat.zero_le _)
    | 15, _ =>
      show (pdP t.nv.toNat t.F).length ≤ _
      have h1 := ht.F.txt hz
      have h2 := lowD_20 (n := t.nv.toNat) (by have := ht.nv; omega)
      have h3 := lowD_20 (n := t.F.length) (by have := ht.F.len; omega)
      unfold pdP hdM
      simp only [List.length_append, List.length_reverse, List.length_cons, List.length_nil]
      omega
    | 16, _ => (show (ite _ _ _ : Ob).X.length ≤ _; split <;> exact Nat.zero_le _)
    | 17, _ => (show (ite _ _ _ : Ob).X.length ≤ _; split <;> exact Nat.zero_le _)
    | 18, _ => (show (dr18 t (drP Y)).2.X.length ≤ _; cases drP Y <;> exact Nat.zero_le _)
    | 19, _ => (show (ptB t.P).length ≤ _; have := ht.P.txt hz; omega)
    | 20, _ => (show (ite _ _ _ : Ob).X.length ≤ _; split <;> exact Nat.zero_le _)
    | 21, _ => exact Nat.zero_le _
    | 22, _ => (show (ite _ (ite _ _ _) _ : Ob).X.length ≤ _; split; (split <;> exact Nat.zero_le _); exact Nat.zero_le _)
    | 23, _ =>
      show (ite _ _ _ : Ob).X.length ≤ _
      split
      · next hn =>
        obtain ⟨C, hC⟩ : ∃ C, t.F[a.toNat]? = some C := ⟨_, List.getElem?_eq_getElem (by omega)⟩
        have hm := ht.F.mem C (List.mem_of_getElem? hC)
        have := pcP_len hz hm.1 (fun x hx => (hm.2 x hx).1)
        show (pcP (t.F.getD a.toNat [])).length ≤ _
        rw [List.getD_eq_getElem?_getD, hC, Option.getD_some]
        omega
      · show (pcP []).length ≤ _
        decide
    | 24, _ =>
      show (ite _ _ _ : Ob).X.length ≤ _
      split
      · next hn =>
        obtain ⟨C, hC⟩ : ∃ C, t.P[a.toNat]? = some C := ⟨_, List.getElem?_eq_getElem (by omega)⟩
        have hm := ht.P.mem C (List.mem_of_getElem? hC)
        have := ptB_len hz (F := [C]) (fun D hD => by rw [List.mem_singleton] at hD; subst hD; exact hm)
        show (ptB [t.P.getD a.toNat (false, [])]).length ≤ _
        rw [List.getD_eq_getElem?_getD, hC, Option.getD_some]
        simp only [List.length_cons, List.length_nil] at this
        omega
      · show (pcP []).length ≤ _
        decide
    | 25, _ => exact Nat.zero_le _
    | 26, _ => exact Nat.zero_le _
    | 27, _ => exact Nat.zero_le _
    | 28, _ => exact Nat.zero_le _
    | j + 29, hh => omega
  · exact Nat.zero_le _
theorem rowu_ul {w : World} {B : Nat} {tv : Value} {X : List Int} (h : w.ownsRow B 5 1 tv X.length (X.map (Value.int .u8))) : ∃ a c, tv = .slice a X.length c ∧ UL w a X := by
  obtain ⟨a, c, e⟩ := own_form h
  subst e
  refine ⟨a, c, rfl, fun j x hx => ?_⟩
  have hlt := (List.getElem?_eq_some_iff.1 hx).1
  obtain ⟨g, cv, ev⟩ := own_some h (by omega)
  injection ev with ev _ ev2
  subst ev ev2
  have := h.cells (g := g) rfl j (.int .u8 x) (by rw [List.getElem?_map, hx]; rfl)
  rw [Addr.add_mid, Nat.zero_add] at this
  exact ⟨g, 0, rfl, by rw [Nat.zero_add]; exact this⟩
theorem tx_of {T : Nat → Int} {n : Nat} : TX T n ((List.range n).map T) := ⟨by simp, fun i x h => by
  rw [List.getElem?_map] at h
  obtain ⟨j, hj, e⟩ := Option.map_eq_some_iff.1 h
  have hi := (List.getElem?_eq_some_iff.1 hj).1
  rw [List.length_range] at hi
  rw [List.getElem?_range hi] at hj
  cases hj
  exact e⟩
theorem bt_ul {w : World} {a : Option Addr} {n : Nat} {T : Nat → Int} (h : BT w a n T) : UL w a ((List.range n).map T) := fun j x hx => by
  have hl := (List.getElem?_eq_some_iff.1 hx).1
  simp at hl
  obtain ⟨g, off, e, hc, _⟩ := h j hl
  have := (tx_of (T := T) (n := n)).2 j x hx
  exact ⟨g, off, e, by rw [← this]; exact hc⟩
set_option linter.unusedSimpArgs false in
set_option maxRecDepth 100000 in
set_option maxHeartbeats 32000000 in
/-- cnflaw.RealDoesWhatModelDoes -/
theorem realDoesWhatModelDoes_walk (w : World) (a : Option Addr) (len cap : Nat) (f : Nat → OpV) (hn : len ≤ 9223372036854775807) (hops : OpsAt5 w a len f) :
    Calls Tryz.prog 3 #[.slice a len cap] w fun e w' => e = .returned (.bool true) ∧ Below w.heap.size w w' := by
  have HO := hide hops.1
  have HCAP := hide hops.2
  have cs := hide (smallS_any w a len cap f hops.1 hn)
  clear hops
  go_enter Tryz.func3, Tryz.ntmps3
  go_wp2_with fail
  refine cs.out.mono ?_
  rintro e w' ⟨bb, rfl, hw, hsm⟩
  rw [hw]
  clear hw w' cs
  cases bb
  · go_wp2
    go_ret
    exact ⟨rfl, Below.refl _ _⟩
  have HSM := hide (hsm rfl)
  clear hsm
  go_wp2_with fail
  refine (newBench_any w).mono ?_
  rintro e w1 ⟨r, rfl, hbx, hb1⟩
  have hlen : len ≤ 65536 := by have := HSM.out; omega
  go_upto_region 5 with fail
  obtain ⟨P0, S0, hbn⟩ := hbx
  have HIV : Hid (∃ (P : Nat → Nat) (S : Nat → Nat → Prop) (V : Nat → Value) (S' : Nat → Nat → Prop), BN (w1.alloc (.cells #[.int .i64 0, .slice none 0 0, .slice none 0 0, .slice none 0 0, .int .i64 0, .slice none 0 0, .slice none 0 0, .slice none 0 0] 33)) w.heap.size r P S (QS w.heap.size st0) ∧ MN (w1.alloc (.cells #[.int .i64 0, .slice none 0 0, .slice none 0 0, .slice none 0 0, .int .i64 0, .slice none 0 0, .slice none 0 0, .slice none 0 0] 33)) w.heap.size w1.heap.size (fp r S) V S' (QM w.heap.size mst0) mst0.nv mst0.sv) := ⟨P0, S0, _, _, hbn.below (be1 w1 _), mn_new w1 w.heap.size hb1.size (fp r S0) (fun k z => z.elim (fun z => by rw [z]; exact hbn.rlt) (fun ⟨i, hi, z⟩ => (hbn.rg i hi k z).2))⟩
  have HB1 : Hid (Below w.heap.size w (w1.alloc (.cells #[.int .i64 0, .slice none 0 0, .slice none 0 0, .slice none 0 0, .int .i64 0, .slice none 0 0, .slice none 0 0, .slice none 0 0] 33))) := hb1.trans ((be1 w1 _).mono hb1.size)
  clear hbn hb1
  generalize w1.alloc (.cells #[.int .i64 0, .slice none 0 0, .slice none 0 0, .slice none 0 0, .int .i64 0, .slice none 0 0, .slice none 0 0, .slice none 0 0] 33) = w2 at *
  generalize w1.heap.size = m at *
  go_upto_region 6 with fail
  go_loopw [6, 15] (fun _ s15 wx => ∃ (i : Nat) (s : St) (t : Mst), s15 = .int .i64 i ∧ i ≤ len ∧ Hid (∃ (P : Nat → Nat) (S : Nat → Nat → Prop) (V : Nat → Value) (S' : Nat → Nat → Prop), BN wx w.heap.size r P S (QS w.heap.size s) ∧ MN wx w.heap.size m (fp r S) V S' (QM w.heap.size t) t.nv t.sv) ∧ Hid (StOk (i + sumP f i) s) ∧ Hid (Rl s t) ∧ Hid (Below w.heap.size w wx)) (fun _ s15 _ => len - (intOf s15).toNat)
  case atStart => exact ⟨0, st0, mst0, rfl, Nat.zero_le _, HIV, st0_ok, rl0, HB1⟩
  case round =>
    clear HIV HB1
    obtain ⟨i, s, t, rfl, hi, HX, HK, HRL, HB⟩ := hrel
    have hw1 : wrap64 ((i : Int) + 1) = ((i + 1 : Nat) : Int) := by unfold wrap64; omega
    by_cases hlt : i < len
    · have hib : decide ((i : Int) < (len : Int)) = true := decide_eq_true (by omega)
      have hii : (i : Int) < (len : Int) := by omega
      obtain ⟨b, off, ea, hop⟩ := HO.out i hlt
      subst ea
      have HSZ : Hid (i + sumP f i ≤ 65536 ∧ (f i).ln ≤ 65536 ∧ (f i).tn ≤ 65536) := by
        have h1 := sumP_mono f (i := i + 1) (j := len) (by omega)
        have h2 := HSM.out
        rw [sumP] at h1
        show _ ∧ _ ∧ _
        omega
      have hop1 := hop.below HB.out
      have c0 := hop1.c0
      have c1 := hop1.c1
      have c2 := hop1.c2
      have c3 := hop1.c3
      have HNX : Hid (i + sumP f i + 1 + (litsO (f i)).length + (f i).tn = (i + 1) + sumP f (i + 1)) := by show _ = _; rw [sumP, litsO_len]; omega
      obtain ⟨P, S, V, S', hbn, hmn⟩ := HX.out
      have hcs := hide (fun (wz : World) (hbx : BN wz w.heap.size r P S (QS w.heap.size s)) (hwz : Below w.heap.size w wz) => step_all wz w.heap.size r (i + sumP f i) P S s hbx hwz.size HK.out HSZ.out.1 (f i) (by have := hop.ra; omega) (litsO (f i)) (litsO_len _) (fun w' hw' => op_il (hop.below (hwz.trans (bel_ex hw' hwz.size)))) (fun w' hw' => (hop.below (hwz.trans (bel_ex hw' hwz.size))).bt) HSZ.out.2.1 HSZ.out.2.2)
      have hcm := hide (fun (wz : World) (Xz : Nat → Prop) (hmx : MN wz w.heap.size m Xz V S' (QM w.heap.size t) t.nv t.sv) (hXz : ∀ k, Xz k → k < wz.heap.size) (hwz : Below w.heap.size w wz) => mstep_all wz w.heap.size m (i + sumP f i) Xz V S' t hmx hwz.size hXz (HRL.out.ok HK.out) HSZ.out.1 (f i) (by have := hop.ra; omega) (litsO (f i)) (litsO_len _) (fun w' hw' => op_il (hop.below (hwz.trans (bel_ex hw' hwz.size)))) HSZ.out.2.1 ((List.range (f i).tn).map (f i).T) (by simp) (fun w' hw' => bt_ul (hop.below (hwz.trans (bel_ex hw' hwz.size))).bt) HSZ.out.2.2 (HCAP.out i hlt))
      have HOK2 := hide (fun s' b' (h : StR s (f i).a (litsO (f i)) (f i).T (f i).tn (f i).kd s' b') => And.intro (str_ok h HK.out) (st_mt h HK.out HRL.out (tx_of (T := (f i).T) (n := (f i).tn))))
      have HBL := hide (ob_len (a := (f i).a) (kd := (f i).kd) (Y := (List.range (f i).tn).map (f i).T) (HRL.out.ok HK.out) HSZ.out.1 (show (litsO (f i)).length ≤ 65536 by rw [litsO_len]; exact HSZ.out.2.1))
      unfold opZ at hcs hcm
      generalize hXX : litsO (f i) = XX at *
      generalize hYY : (List.range (f i).tn).map (f i).T = YY at *
      clear hXX hYY hop hop1
      generalize f i = v at *
      obtain ⟨kd, va, la, ln, lc, VX, ta, tn, tc, VT⟩ := v
      dsimp only at c0 c1 c2 c3 hcs hcm HOK2 HNX HSZ HBL
      obtain ⟨⟨t', b2⟩, hmt⟩ : ∃ x, mtF t va XX YY kd = x := ⟨_, rfl⟩
      rw [hmt] at hcm HOK2 HBL
      clear hmt
      dsimp only at hcm HOK2 HBL
      have HBN := hide hbn
      have HMN := hide hmn
      clear hbn hmn HX
      go_upto_region 8 with fail
      have HBa : Hid (Below w.heap.size w (wr.alloc (.cells #[.int .i64 kd, .int .i64 va, .slice la ln lc, .slice ta tn tc] 37))) := HB.out.trans ((be1 wr _).mono HB.out.size)
      have d0 := new_cells wr [.int .i64 kd, .int .i64 va, .slice la ln lc, .slice ta tn tc] 37 0 _ rfl
      have d1 := new_cells wr [.int .i64 kd, .int .i64 va, .slice la ln lc, .slice ta tn tc] 37 1 _ rfl
      have d2 := new_cells wr [.int .i64 kd, .int .i64 va, .slice la ln lc, .slice ta tn tc] 37 2 _ rfl
      have d3 := new_cells wr [.int .i64 kd, .int .i64 va, .slice la ln lc, .slice ta tn tc] 37 3 _ rfl
      rw [Addr.add_mid, Nat.zero_add] at d0 d1 d2 d3
      have HQF : Hid (¬ fp r S wr.heap.size ∧ ¬ fp m S' wr.heap.size) := ⟨fun z => by
        rcases z with z | ⟨j, hj, z⟩
        · have := HBN.out.rlt; omega
        · have := (HBN.out.rg j hj _ z).2; omega, fun z => by
        rcases z with z | ⟨j, hj, z⟩
        · have := HMN.out.lt; omega
        · have := (HMN.out.rg j hj _ z).2; omega⟩
      have HMa := hide (HMN.out.keep ((Ex.refl (fun _ => False) wr).alloc (.cells #[.int .i64 kd, .int .i64 va, .slice la ln lc, .slice ta tn tc] 37)))
      have HNa := hide (HBN.out.below (be1 wr (.cells #[.int .i64 kd, .int .i64 va, .slice la ln lc, .slice ta tn tc] 37)))
      generalize wr.alloc (.cells #[.int .i64 kd, .int .i64 va, .slice la ln lc, .slice ta tn tc] 37) = wa at *
      generalize wr.heap.size = q at *
      clear c0 c1 c2 c3 HBN HMN HB
      have HBd : Hid (Below w.heap.size w wa.drew) := HBa.out.trans ((Below.refl _ wa).drew |> fun h => h.mono HBa.out.size)
      have HNd := hide (HNa.out.keep ((Ex.refl (fun _ => False) wa).drew) (fun z => z) (fun _ _ _ _ z => z))
      have HMd := hide (HMa.out.keep ((Ex.refl (fun _ => False) wa).drew))
      have KS0 : Hid ((fun w' => w'.cell? ⟨q, 0, none⟩ = some (.int .i64 kd) ∧ w'.cell? ⟨q, 1, none⟩ = some (.int .i64 va) ∧ w'.cell? ⟨q, 2, none⟩ = some (.slice la ln lc) ∧ w'.cell? ⟨q, 3, none⟩ = some (.slice ta tn tc)) wa.drew) := ⟨d0, d1, d2, d3⟩
      clear d0 d1 d2 d3 HBa HNa HMa
      generalize hwd : wa.drew = wd at *
      refine wp_region_held_drew (S := fun w' => w'.cell? ⟨q, 0, none⟩ = some (.int .i64 kd) ∧ w'.cell? ⟨q, 1, none⟩ = some (.int .i64 va) ∧ w'.cell? ⟨q, 2, none⟩ = some (.slice la ln lc) ∧ w'.cell? ⟨q, 3, none⟩ = some (.slice ta tn tc)) (by kernel_rfl) (hwd ▸ KS0.out) (fun hHeld => ?_)
      refine wpAnyH_take (i := 0) (v := ?_) rfl (by kernel_rfl) (by kernel_rfl) (by kernel_rfl) (fun _ _ _ h => h) (Or.inl ⟨by rfl, ?_⟩) (by assumption) ?_
      rotate_left
      · (intro w hSw; (try dsimp only at hSw); go_simp; try (with_reducible rfl))
      try simp only [Act.put, List.getElem_toArray, List.getElem_cons_zero, List.getElem_cons_succ, List.setIfInBounds_toArray, List.set_cons_zero, List.set_cons_succ]
      refine wpAnyH_take (i := 1) (v := ?_) rfl (by kernel_rfl) (by kernel_rfl) (by kernel_rfl) (fun _ _ _ h => h) (Or.inl ⟨by rfl, ?_⟩) (by assumption) ?_
      rotate_left
      · (intro w hSw; (try dsimp only at hSw); (obtain ⟨z0, z1, z2, z3⟩ := hSw); go_simp; try (with_reducible rfl))
      try simp only [Act.put, List.getElem_toArray, List.getElem_cons_zero, List.getElem_cons_succ, List.setIfInBounds_toArray, List.set_cons_zero, List.set_cons_succ]
      refine wpAnyH_take (i := 3) (v := ?_) rfl (by kernel_rfl) (by kernel_rfl) (by kernel_rfl) (fun _ _ _ h => h) (Or.inl ⟨by rfl, ?_⟩) (by assumption) ?_
      rotate_left
      · (intro w hSw; (try dsimp only at hSw); go_simp; try (with_reducible rfl))
      try simp only [Act.put, List.getElem_toArray, List.getElem_cons_zero, List.getElem_cons_succ, List.setIfInBounds_toArray, List.set_cons_zero, List.set_cons_succ]
      refine wpAnyH_take (i := 4) (v := ?_) rfl (by kernel_rfl) (by kernel_rfl) (by kernel_rfl) (fun _ _ _ h => h) (Or.inl ⟨by rfl, ?_⟩) (by assumption) ?_
      rotate_left
      · (intro w hSw; (try dsimp only at hSw); (obtain ⟨z0, z1, z2, z3⟩ := hSw); go_simp; try (with_reducible rfl))
      try simp only [Act.put, List.getElem_toArray, List.getElem_cons_zero, List.getElem_cons_succ, List.setIfInBounds_toArray, List.set_cons_zero, List.set_cons_succ]
      refine wpAnyH_ready (rs := [2]) (by kernel_rfl) (by simp) ?_
      refine (AllReadyH.cons rfl (fun K hK => ?_) AllReadyH.nil)
      · rw [hwd]
        refine step_call rfl 9 #[.pointer (some ⟨r, 0, none⟩), .agg #[.int .i64 kd, .int .i64 va, .slice la ln lc, .slice ta tn tc]] (by simp [go_sem]) (hcs.out wd HNd.out HBd.out) ?_
        rintro e w5 ⟨s', b', hst, tv, rfl, ⟨P2, S2, hbn2, hs2⟩, htx, hex⟩
        have HST := hide (HOK2.out s' b' hst)
        clear hst
        have HB5 : Hid (Below w.heap.size w w5) := HBd.out.trans ((hex.mono (fun k (z : fp r S k) => show w.heap.size ≤ k from z.elim (fun z => by rw [z]; exact HNd.out.rB) (fun ⟨j, hj, z⟩ => (HNd.out.rg j hj k z).1))) |> fun h => bel_ex h HBd.out.size)
        have KS1 : Hid ((fun w' => w'.cell? ⟨q, 0, none⟩ = some (.int .i64 kd) ∧ w'.cell? ⟨q, 1, none⟩ = some (.int .i64 va) ∧ w'.cell? ⟨q, 2, none⟩ = some (.slice la ln lc) ∧ w'.cell? ⟨q, 3, none⟩ = some (.slice ta tn tc)) w5) := ⟨hex.cell HQF.out.1 KS0.out.1, hex.cell HQF.out.1 KS0.out.2.1, hex.cell HQF.out.1 KS0.out.2.2.1, hex.cell HQF.out.1 KS0.out.2.2.2⟩
        have HM5 : Hid (MN w5 w.heap.size m (fp r S2) V S' (QM w.heap.size t) t.nv t.sv) := HMd.out.ext hex (fun g z => .inl z) (fun g z => z.elim (fun z => .inl (.inl z)) (fun ⟨j, hj, z⟩ => (hs2 j hj g z)))
        have HN5 := hide hbn2
        have HX5 : Hid (∀ k, fp r S2 k → k < w5.heap.size) := fun k z => z.elim (fun z => by rw [z]; exact hbn2.rlt) (fun ⟨j, hj, z⟩ => (hbn2.rg j hj k z).2)
        have HTV := hide htx
        clear hbn2 hs2 htx hex
        refine ⟨_, rfl, ?_⟩
        refine hK.out _ _ ?_ (fun hHeld => ?_)
        · (first | with_reducible exact KS0.out | with_reducible exact KS1.out | with_reducible exact KS2.out | with_reducible exact KS3.out)
        clear hK K
        try simp only [Act.put, List.getElem_toArray, List.getElem_cons_zero, List.getElem_cons_succ, List.setIfInBounds_toArray, List.set_cons_zero, List.set_cons_succ]
        refine wpAnyH_ready (rs := [5]) (by kernel_rfl) (by simp) ?_
        refine (AllReadyH.cons rfl (fun K hK => ?_) AllReadyH.nil)
        · refine step_call rfl 10 #[.pointer (some ⟨m, 0, none⟩), .agg #[.int .i64 kd, .int .i64 va, .slice la ln lc, .slice ta tn tc]] (by simp [go_sem]) (hcm.out w5 (fp r S2) HM5.out HX5.out HB5.out) ?_
          rintro e w6 ⟨tv2, rfl, ⟨V3, S3, hmn3, hs3⟩, htx2, hex2⟩
          have HB6 : Hid (Below w.heap.size w w6) := HB5.out.trans ((hex2.mono (fun k (z : fp m S' k) => show w.heap.size ≤ k from z.elim (fun z => by rw [z]; exact HM5.out.mB) (fun ⟨j, hj, z⟩ => (HM5.out.rg j hj k z).1))) |> fun h => bel_ex h HB5.out.size)
          have KS2 : Hid ((fun w' => w'.cell? ⟨q, 0, none⟩ = some (.int .i64 kd) ∧ w'.cell? ⟨q, 1, none⟩ = some (.int .i64 va) ∧ w'.cell? ⟨q, 2, none⟩ = some (.slice la ln lc) ∧ w'.cell? ⟨q, 3, none⟩ = some (.slice ta tn tc)) w6) := ⟨hex2.cell HQF.out.2 KS1.out.1, hex2.cell HQF.out.2 KS1.out.2.1, hex2.cell HQF.out.2 KS1.out.2.2.1, hex2.cell HQF.out.2 KS1.out.2.2.2⟩
          have HN6 : Hid (BN w6 w.heap.size r P2 S2 (QS w.heap.size s')) := HN5.out.keep hex2 (fun z => z.elim (fun z => HM5.out.mx (.inl z.symm)) (fun ⟨j, hj, z⟩ => HM5.out.dx j hj _ z (.inl rfl))) (fun j hj k hk z => z.elim (fun z => HM5.out.mx (.inr ⟨j, hj, z ▸ hk⟩)) (fun ⟨j2, hj2, z⟩ => HM5.out.dx j2 hj2 k z (.inr ⟨j, hj, hk⟩)))
          have HT6 : Hid (w6.ownsRow wd.heap.size 5 1 tv b'.X.length (b'.X.map (Value.int .u8))) := own_kept HTV.out hex2 (fun k hk z => by
            have h1 := (HTV.out.lt k hk).1
            rcases z with z | ⟨j, hj, z⟩
            · rw [z] at h1; have := HMd.out.lt; omega
            · have := (HMd.out.rg j hj k z).2; omega)
          have HM6 := hide hmn3
          have HE := hide HST.out.2.1
          obtain ⟨a1, c1, e1, hu1⟩ := rowu_ul HT6.out
          obtain ⟨a2, c2, e2, hu2⟩ := rowu_ul htx2
          subst e1 e2
          rw [HE.out] at hu2 ⊢
          have c8 := hide (sameObs_eq w6 b'.er b'.ln b'.col b'.n b'.m a1 c1 a2 c2 b'.X hu1 hu2 (by have := HBL.out; rw [HE.out] at this; omega))
          clear hmn3 hs3 htx2 hex2 hu1 hu2
          unfold obV
          refine ⟨_, rfl, ?_⟩
          refine hK.out _ _ ?_ (fun hHeld => ?_)
          · (first | with_reducible exact KS0.out | with_reducible exact KS1.out | with_reducible exact KS2.out | with_reducible exact KS3.out)
          clear hK K
          try simp only [Act.put, List.getElem_toArray, List.getElem_cons_zero, List.getElem_cons_succ, List.setIfInBounds_toArray, List.set_cons_zero, List.set_cons_succ]
          refine wpAnyH_ready (rs := [6]) (by kernel_rfl) (by simp) ?_
          refine (AllReadyH.cons rfl (fun K hK => ?_) AllReadyH.nil)
          · refine step_call rfl 8 #[(.agg #[.int .i64 b'.er, .int .i64 b'.ln, .int .i64 b'.col, .int .i64 b'.n, .int .i64 b'.m, .slice a1 b'.X.length c1]), (.agg #[.int .i64 b'.er, .int .i64 b'.ln, .int .i64 b'.col, .int .i64 b'.n, .int .i64 b'.m, .slice a2 b'.X.length c2])] (by simp [go_sem]) c8.out ?_
            rintro e w7 ⟨rfl, hx7⟩
            have HB7 : Hid (Below w.heap.size w w7) := HB6.out.trans ((hx7.below (Nat.le_refl _) (fun _ _ z => z)).mono HB6.out.size)
            have KS3 : Hid ((fun w' => w'.cell? ⟨q, 0, none⟩ = some (.int .i64 kd) ∧ w'.cell? ⟨q, 1, none⟩ = some (.int .i64 va) ∧ w'.cell? ⟨q, 2, none⟩ = some (.slice la ln lc) ∧ w'.cell? ⟨q, 3, none⟩ = some (.slice ta tn tc)) w7) := ⟨hx7.cell (fun z => z) KS2.out.1, hx7.cell (fun z => z) KS2.out.2.1, hx7.cell (fun z => z) KS2.out.2.2.1, hx7.cell (fun z => z) KS2.out.2.2.2⟩
            have HN7 := hide (HN6.out.keep hx7 (fun z => z) (fun _ _ _ _ z => z))
            have HM7 := hide (HM6.out.keep hx7)
            clear hx7 c8
            refine ⟨_, rfl, ?_⟩
            refine hK.out _ _ ?_ (fun hHeld => ?_)
            · (first | with_reducible exact KS0.out | with_reducible exact KS1.out | with_reducible exact KS2.out | with_reducible exact KS3.out)
            clear hK K
            try simp only [Act.put, List.getElem_toArray, List.getElem_cons_zero, List.getElem_cons_succ, List.setIfInBounds_toArray, List.set_cons_zero, List.set_cons_succ]
            refine wpAnyH_take (i := 7) (v := ?_) rfl (by kernel_rfl) (by kernel_rfl) (by kernel_rfl) (fun _ _ _ h => h) (Or.inl ⟨by rfl, ?_⟩) (by assumption) ?_
            rotate_left
            · (intro w hSw; (try dsimp only at hSw); go_simp; try (with_reducible rfl))
            try simp only [Act.put, List.getElem_toArray, List.getElem_cons_zero, List.getElem_cons_succ, List.setIfInBounds_toArray, List.set_cons_zero, List.set_cons_succ]
            refine wpAnyH_done (by kernel_rfl) ?_ _
            clear KS0 KS1 KS2 KS3 HN6 HM6 HT6 HTV HN5 HM5 HX5 HB5 HB6 HNd HMd HBd hcs hcm
            have HK7 : Hid (StOk ((i + 1) + sumP f (i + 1)) s') := by
              have := HST.out.1
              rw [HNX.out] at this
              exact this
            have HR7 := hide HST.out.2.2
            clear hib hii
            go_wp2
            go_roundw
            case rel => exact ⟨i + 1, s', t', by go_num, by omega, ⟨P2, S2, V3, S3, HN7.out, HM7.out⟩, HK7, HR7, HB7⟩
            case measure => exact meas_lt (i := i) (by go_num) rfl hlt
    have hib : decide ((i : Int) < (len : Int)) = false := decide_eq_false (by omega)
    have hin : ¬ (i : Int) < (len : Int) := by omega
    have hie : i = len := by omega
    obtain ⟨P, S, V, S', hbn, hmn⟩ := HX.out
    obtain ⟨fb, ab, pb, va, ve, vb, vc, vd, vf, fa, fc, aa, ac, pa, pc, hss⟩ := sst_of hbn hmn
    have c11 := hide (sameState_any wr w.heap.size r m (i + sumP f i) hss HK.out (by rw [hie]; have := HSM.out; omega) HRL.out)
    clear hbn hmn hss HX hie hw1
    go_upto_region 11 with fail
    go_wp2_with fail
    refine c11.out.mono ?_
    rintro e w9 ⟨rfl, hx9⟩
    have HB9 : Hid (Below w.heap.size w w9) := HB.out.trans ((hx9.below (Nat.le_refl _) (fun _ _ z => z)).mono HB.out.size)
    clear hx9 c11 HB
    go_wp2_with (with_reducible refine bodyPost_ret (v := .bool true) ?hr ?hd ?hp)
    case hr => simp [results, Tryz.results3, go_sem]
    case hd => rfl
    case hp => first | exact HB9.out | exact ⟨rfl, HB9.out⟩
end Go.Proofs.Qxb6500773aGreat
