import Derived.Test.Qxb6500773aGreatNb
import Derived.Test.Qxb6500773aGreatSm0
import Derived.Test.Qxb6500773aGreatDi1
namespace Go.Proofs.Qxb6500773aGreat
open Go.RowKit

/-! ### The script's steps as values -/
theorem bel_ex {B : Nat} {w w' : World} (h : Ex (fun k => B ≤ k) w w') (hB : B ≤ w.heap.size) : Below B w w' := ⟨h.os, h.tape, h.output, h.size, fun k hk => h.block k (by omega) (by omega)⟩
theorem ex_bel {B : Nat} {w w' : World} (h : Below B w w') : Ex (fun k => B ≤ k) w w' := ⟨h.os, h.tape, h.output, h.size, fun k hk hn => h.block k (by omega)⟩
/-- the literals of a step -/
def litsO (v : OpV) : List Int := (List.range v.ln).map v.X
theorem litsO_len (v : OpV) : (litsO v).length = v.ln := by unfold litsO; simp
theorem op_il {w : World} {b o : Nat} {v : OpV} (h : OpAt w b o v) : IL w v.la (litsO v) := fun j x hx => by
  unfold litsO at hx
  rw [List.getElem?_map] at hx
  obtain ⟨i, hi, rfl⟩ := Option.map_eq_some_iff.1 hx
  have hj := (List.getElem?_eq_some_iff.1 hi).1
  rw [List.length_range] at hj
  rw [List.getElem?_range hj] at hi
  cases hi
  obtain ⟨g, off, e, hc, _⟩ := h.li j hj
  exact ⟨g, off, e, hc⟩
theorem OpAt.keepB {w w' : World} {b o : Nat} {v : OpV} (h : OpAt w b o v) (k : Below w.heap.size w w') : OpAt w' b o v := h.below k
/-- the sum of the sizes of the first steps -/
theorem sumP_mono (f : Nat → OpV) : ∀ {i j : Nat}, i ≤ j → sumP f i ≤ sumP f j
  | i, 0, h => by rw [show i = 0 by omega]; exact Nat.le_refl _
  | i, j + 1, h => by
    by_cases e : i = j + 1
    · rw [e]; exact Nat.le_refl _
    · have := sumP_mono f (i := i) (j := j) (by omega)
      rw [sumP]; omega
/-- the built formula comes back -/
theorem fo_back {z : Nat} (hz : z ≤ 65536) {F : Fo} (h : FoOk z F) (w : World) (B b : Nat) (va ve : Value) (hp : FF w B b va ve F.nv F.L F.E) :
    Calls Tryz.prog 12 #[.pointer (some ⟨b, 0, none⟩)] w (SaPost w true) := by
  have hok : FOk 65536 F.nv F.E.length ⟨⟨65536, 1, 0⟩, F.L, F.E⟩ := ⟨⟨Nat.le_refl _, by dsimp only; omega, by dsimp only; omega⟩, by have := h.len; show _ ≤ 65536; dsimp only; omega, h.lit, Int.le_refl _, h.eok.asc, h.eok.rng⟩
  refine foBack_any w B b va ve F.nv F.E.length ⟨⟨65536, 1, 0⟩, F.L, F.E⟩ 65536 (Nat.le_refl _) h.nv hp hok ⟨fun _ => 0, 65536, ?_⟩
  unfold fStep
  dsimp only
  rw [seekF_end (by show ¬ 65536 < 65536; omega)]
  dsimp only
  rw [if_neg (by decide), if_neg (by unfold pendP; rw [h.cls]; simp), if_pos rfl]
theorem pf_back {z : Nat} (hz : z ≤ 65536) {F : Pf} (h : PfOk z F) (w : World) (B b : Nat) (va ve vd : Value) (hp : PF w B b va ve vd F.L F.E F.D) :
    Calls Tryz.prog 13 #[.pointer (some ⟨b, 0, none⟩)] w (SaPost w true) := by
  have hok : DOk 65536 ⟨⟨65536, 1, 0⟩, F.L, F.E, F.D, false⟩ := ⟨⟨Nat.le_refl _, by dsimp only; omega, by dsimp only; omega⟩, by have := h.len; show _ ≤ 65536; dsimp only; omega, h.dl, h.lit, h.eok.asc, h.eok.rng⟩
  refine pfBack_any w B b va ve vd ⟨⟨65536, 1, 0⟩, F.L, F.E, F.D, false⟩ 65536 (Nat.le_refl _) hp hok ⟨fun _ => 0, 65536, ?_⟩
  unfold dStep
  dsimp only
  rw [seekF_end (by show ¬ 65536 < 65536; omega)]
  dsimp only
  rw [if_neg (by decide), if_neg (by unfold pendP; rw [h.cls]; simp)]
set_option linter.unusedSimpArgs false in
set_option maxRecDepth 100000 in
set_option maxHeartbeats 16000000 in
/-- cnflaw.BuiltComesBack -/
theorem builtComesBack_walk (w : World) (a : Option Addr) (len cap : Nat) (f : Nat → OpV) (hn : len ≤ 9223372036854775807) (hops : OpsAt w a len f) :
    Calls Tryz.prog 4 #[.slice a len cap] w fun e w' => e = .returned (.bool true) ∧ Below w.heap.size w w' := by
  have HO := hide hops
  have cs := hide (smallS_any w a len cap f hops hn)
  clear hops
  go_enter Tryz.func4, Tryz.ntmps4
  go_wp2_with fail
  refine cs.out.mono ?_
  rintro e w' ⟨bb, rfl, hw, hsm⟩
  rw [hw]
  clear hw w' cs
  cases bb
  · go_wp2
    go_ret
    exact ⟨rfl, Below.refl _ _⟩
  have HSM := hide (hsm rfl)
  clear hsm
  go_wp2_with fail
  refine (newBench_any w).mono ?_
  rintro e w1 ⟨r, rfl, hbx, hb1⟩
  have HB1 := hide hb1
  have HX1 := hide hbx
  clear hb1 hbx
  have hlen : len ≤ 65536 := by have := HSM.out; omega
  go_wp2_with fail
  go_loopw [5, 12] (fun _ s12 wx => ∃ (i : Nat) (s : St), s12 = .int .i64 i ∧ i ≤ len ∧ Hid (BX wx w.heap.size r s) ∧ Hid (StOk (i + sumP f i) s) ∧ Hid (Below w.heap.size w wx)) (fun _ s12 _ => len - (intOf s12).toNat)
  case atStart => exact ⟨0, st0, rfl, Nat.zero_le _, HX1, st0_ok, HB1⟩
  case round =>
    clear HX1 HB1
    obtain ⟨i, s, rfl, hi, HX, HK, HB⟩ := hrel
    have hw1 : wrap64 ((i : Int) + 1) = ((i + 1 : Nat) : Int) := by unfold wrap64; omega
    by_cases hlt : i < len
    · have hib : decide ((i : Int) < (len : Int)) = true := decide_eq_true (by omega)
      have hii : (i : Int) < (len : Int) := by omega
      obtain ⟨b, off, ea, hop⟩ := HO.out i hlt
      subst ea
      have HSZ : Hid (i + sumP f i ≤ 65536 ∧ (f i).ln ≤ 65536 ∧ (f i).tn ≤ 65536) := by
        have h1 := sumP_mono f (i := i + 1) (j := len) (by omega)
        have h2 := HSM.out
        rw [sumP] at h1
        show _ ∧ _ ∧ _
        omega
      have hop1 := hop.below HB.out
      have c0 := hop1.c0
      have c1 := hop1.c1
      have c2 := hop1.c2
      have c3 := hop1.c3
      have HOP := hide hop
      have HNX : Hid (i + sumP f i + 1 + (litsO (f i)).length + (f i).tn = (i + 1) + sumP f (i + 1)) := by show _ = _; rw [sumP, litsO_len]; omega
      clear hop hop1
      have hcs := fun (wz : World) (hbx : BX wz w.heap.size r s) (hwz : Below w.heap.size w wz) => hide (step_all wz w.heap.size r (i + sumP f i) s hbx hwz.size HK.out HSZ.out.1 (f i) (by have := HOP.out.ra; omega) (litsO (f i)) (litsO_len _) (fun w' hw' => op_il (HOP.out.below (hwz.trans (bel_ex hw' hwz.size)))) (fun w' hw' => (HOP.out.below (hwz.trans (bel_ex hw' hwz.size))).bt) HSZ.out.2.1 HSZ.out.2.2)
      have HOK2 := hide (fun s' b' (h : StR s (f i).a (litsO (f i)) (f i).T (f i).tn (f i).kd s' b') => str_ok h HK.out)
      unfold opZ at hcs
      generalize f i = v at *
      obtain ⟨kd, va, la, ln, lc, VX, ta, tn, tc, VT⟩ := v
      dsimp only at c0 c1 c2 c3 hcs HOK2 HNX
      go_wp2_with fail
      have HXa : Hid (BX (wr.alloc (.cells #[.int .i64 kd, .int .i64 va, .slice la ln lc, .slice ta tn tc] 37)) w.heap.size r s) := by
        obtain ⟨P, S, h⟩ := HX.out
        exact ⟨P, S, h.below (be1 wr _)⟩
      have HBa : Hid (Below w.heap.size w (wr.alloc (.cells #[.int .i64 kd, .int .i64 va, .slice la ln lc, .slice ta tn tc] 37))) := HB.out.trans ((be1 wr _).mono HB.out.size)
      refine (hcs _ HXa.out HBa.out).out.mono ?_
      rintro e w5 ⟨s', b', hst, tv, rfl, hbx, htx, hex⟩
      have HX5 := hide hbx
      have HB5 : Hid (Below w.heap.size w w5) := HBa.out.trans (bel_ex hex HBa.out.size)
      have HK5 : Hid (StOk ((i + 1) + sumP f (i + 1)) s') := by
        have := HOK2.out s' b' hst
        rw [HNX.out] at this
        exact this
      clear hbx hex htx hst hcs HXa HBa HX HB HK HOK2 HNX c0 c1 c2 c3 HOP HSZ
      go_wp2
      go_roundw
      case rel => exact ⟨i + 1, s', by go_num, by omega, HX5, HK5, HB5⟩
      case measure => (simp [intOf]; try omega)
    · have hib : decide ((i : Int) < (len : Int)) = false := decide_eq_false (by omega)
      have HZ : Hid (i + sumP f i ≤ 65536) := by
        have := HSM.out
        show _ ≤ _
        rw [show i = len by omega]
        exact this
      obtain ⟨P, S, hbn⟩ := HX.out
      have p0 := hbn.ptr 0 (by decide)
      obtain ⟨fa, fe, fff, -⟩ : FOq w.heap.size s.f wr (P 0) (S 0) := hbn.ob 0 (by decide)
      have cf := hide (fo_back HZ.out HK.out.f wr _ _ _ _ fff)
      have HBN := hide hbn
      clear fff hbn HX
      go_wp2_with fail
      refine cf.out.mono ?_
      rintro e w5 ⟨rfl, hb5⟩
      have HB5 := hide hb5
      have hbn5 := HBN.out.below hb5
      have p2 := hbn5.ptr 2 (by decide)
      obtain ⟨pa, pe, pd, ppf, -⟩ : POq w.heap.size s.p w5 (P 2) (S 2) := hbn5.ob 2 (by decide)
      have cp := hide (pf_back HZ.out HK.out.p w5 _ _ _ _ _ ppf)
      clear hb5 hbn5 ppf cf p0
      go_wp2_with fail
      refine cp.out.mono ?_
      rintro e w6 ⟨rfl, hb6⟩
      have HB6 : Hid (Below w.heap.size w w6) := (HB.out.trans (HB5.out.mono HB.out.size)).trans (hb6.mono (Nat.le_trans HB.out.size HB5.out.size))
      clear hb6 cp p2
      go_wp2
      go_ret
      exact ⟨rfl, HB6.out⟩
end Go.Proofs.Qxb6500773aGreat
