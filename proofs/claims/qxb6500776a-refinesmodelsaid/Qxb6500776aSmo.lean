import Derived.Test.Qxb6500776aLw2
import Derived.Test.Qxb6500776aMod
namespace Go.Proofs.Qxb6500776a
open Go.RowKit

set_option maxRecDepth 100000 in
set_option maxHeartbeats 4000000 in
/-- sensorsm.Smoked. -/
theorem smoked_any (w : World) (p : Nat) (v1 v2 : Value) (L : List Shp) (M : List Smk) (h : WD w p v1 v2 L M) (hok : WOk L M) (o t : Shp) (ho : ShpOk o) (ht : ShpOk t) :
    Calls Try.prog 41 #[.pointer (some ⟨p, 0, none⟩), .agg #[.int .i64 o.id, .int .i64 o.team, .int .i64 o.x, .int .i64 o.y, .int .i64 o.depth, .int .i64 o.speed, .int .i64 o.mast, .int .i64 o.noise, .bool o.afloat, .bool o.radar, .bool o.sonar, .bool o.ping], .agg #[.int .i64 t.id, .int .i64 t.team, .int .i64 t.x, .int .i64 t.y, .int .i64 t.depth, .int .i64 t.speed, .int .i64 t.mast, .int .i64 t.noise, .bool t.afloat, .bool t.radar, .bool t.sonar, .bool t.ping]] w fun e w' => e = .returned (.bool (M.any fun m => segO o t m)) ∧ Below w.heap.size w w' := by
  obtain ⟨a2, cp2, e2⟩ := own_form h.r2
  obtain ⟨nM, hnM⟩ : ∃ n, M.length = n := ⟨_, rfl⟩
  have hnM32 : nM ≤ 32 := by rw [← hnM]; exact hok.ml
  rw [hnM] at e2
  have E2 := hide e2
  have HNM := hide hnM
  have HW := hide (h.below (be2 w (.cells (shpA o) 38) (.cells (shpA t) 38)))
  have HMO := hide hok.mo
  have HOK := hide (And.intro ho ht)
  obtain ⟨G, hG⟩ : ∃ G : Smk → Bool, (fun m => segO o t m) = G := ⟨_, rfl⟩
  rw [hG]
  have HGG := hide hG
  clear h hok ho ht e2 hnM hG
  have HX := hide ((BX.new w o).keep ((Ex.refl (fun _ => False) _).alloc (.cells (shpA t) 38)) (fun e => e))
  have HY := hide (BX.new (w.alloc (.cells (shpA o) 38)) t)
  have hsz : (w.alloc (.cells (shpA o) 38)).heap.size = w.heap.size + 1 := by simp
  rw [hsz] at HY
  have HE := hide (be2 w (.cells (shpA o) 38) (.cells (shpA t) 38))
  clear hsz
  go_enter Try.func41, Try.ntmps41
  go_upto_region 1 with fail
  have hsa : #[.int .i64 o.id, .int .i64 o.team, .int .i64 o.x, .int .i64 o.y, .int .i64 o.depth, .int .i64 o.speed, .int .i64 o.mast, .int .i64 o.noise, .bool o.afloat, .bool o.radar, .bool o.sonar, .bool o.ping] = shpA o := rfl
  have hst : #[.int .i64 t.id, .int .i64 t.team, .int .i64 t.x, .int .i64 t.y, .int .i64 t.depth, .int .i64 t.speed, .int .i64 t.mast, .int .i64 t.noise, .bool t.afloat, .bool t.radar, .bool t.sonar, .bool t.ping] = shpA t := rfl
  rw [hsa, hst]
  clear hsa hst
  generalize (w.alloc (.cells (shpA o) 38)).alloc (.cells (shpA t) 38) = w1 at *
  obtain ⟨q2, hq2⟩ : ∃ q, w.heap.size + 1 = q := ⟨_, rfl⟩
  rw [hq2] at HY ⊢
  clear hq2
  obtain ⟨q, hq⟩ : ∃ q, w.heap.size = q := ⟨_, rfl⟩
  rw [hq] at HX ⊢
  clear hq

  go_wp2
  go_loopw [7] (fun sc wr => ∃ c : Nat, c ≤ nM ∧ sc = .int .i64 c ∧ (M.take c).any G = false ∧ Below w1.heap.size w1 wr) (fun sc _ => nM - (intOf sc).toNat)
  case atStart => exact ⟨0, by omega, rfl, by simp, Below.refl _ _⟩
  case round =>
    obtain ⟨c, hc, rfl, hno, hb⟩ := hrel
    have HNO := hide hno
    have HB := hide hb
    have HW9 := hide (HW.out.below hb)
    have HX9 := hide (HX.out.below hb)
    have HY9 := hide (HY.out.below hb)
    have y1 := HW9.out.c1
    rw [E2.out] at y1
    clear hno hb
    by_cases hcl : c < nM
    · have hcli : (c : Int) < (nM : Int) := by omega
      obtain ⟨m, hm⟩ : ∃ m, M[c]? = some m := ⟨_, List.getElem?_eq_getElem (by have := HNM.out; omega)⟩
      obtain ⟨g2, c9, e3⟩ := own_some HW9.out.r2 (by have := HNM.out; omega)
      rw [HNM.out, E2.out] at e3
      cases e3
      have hrow := HW9.out
      rw [E2.out] at hrow
      have hr := hrow.smoke hm HNM.out.symm
      have m0 := hr 0 _ rfl
      have m1 := hr 1 _ rfl
      have m2 := hr 2 _ rfl
      rw [Nat.add_zero] at m0
      have HMo := hide (HMO.out m (List.mem_of_getElem? hm))
      have HAM := hide (any_take (P := G) hm)
      have HMm := hide (List.mem_of_getElem? hm)
      clear hr hrow hm HW9
      have x2 := HX9.out.c2
      have x3 := HX9.out.c3
      have y2 := HY9.out.c2
      have y3 := HY9.out.c3
      have HGm := hide (show G m = segP o.x o.y t.x t.y m.x m.y m.r by rw [← HGG.out]; rfl)
      go_upto_region 4 with fail
      go_region_held3 (fun w' => w'.cell? ⟨q, 2, none⟩ = some (.int .i64 o.x) ∧ w'.cell? ⟨q, 3, none⟩ = some (.int .i64 o.y) ∧ w'.cell? ⟨q2, 2, none⟩ = some (.int .i64 t.x) ∧ w'.cell? ⟨q2, 3, none⟩ = some (.int .i64 t.y) ∧ w'.cell? ⟨p, 1, none⟩ = some (.slice (some ⟨g2, 0, none⟩) nM cp2) ∧ w'.cell? ⟨g2, c * 3, none⟩ = some (.int .i64 m.x) ∧ w'.cell? ⟨g2, c * 3 + 1, none⟩ = some (.int .i64 m.y) ∧ w'.cell? ⟨g2, c * 3 + 2, none⟩ = some (.int .i64 m.r)) (simp [*, go_sem])
        (first
          | (go_at_call 23; refine (segDisc_any _ o.x o.y t.x t.y m.x m.y m.r HOK.out.1.x HOK.out.1.y HOK.out.2.x HOK.out.2.y HMo.out.x HMo.out.y HMo.out.r).mono ?_; rintro e wc ⟨rfl, bc⟩; (try replace bc := of_drew bc); have HBc := hide (lec HB.out bc); have i1 := cellKeep bc x2; have i2 := cellKeep bc x3; have i3 := cellKeep bc y2; have i4 := cellKeep bc y3; have i5 := cellKeep bc y1; have i6 := cellKeep bc m0; have i7 := cellKeep bc m1; have i8 := cellKeep bc m2; clear bc))
      clear x2 x3 y2 y3 y1 m0 m1 m2 i1 i2 i3 i4 i5 i6 i7 i8
      rename_i hh0
      clear hh0
      rw [← HGm.out]
      cases hgm : G m
      · go_wp2
        go_roundw
        case rel => exact ⟨c + 1, by omega, by simp, by rw [HAM.out, hgm, HNO.out]; rfl, HBc.out⟩
        case measure => simp [intOf]; omega
      · go_wp2
        go_ret
        refine ⟨ret_bool ?_, lec HE.out HBc.out⟩
        symm
        rw [List.any_eq_true]
        exact ⟨m, HMm.out, hgm⟩
    · have hcli : ¬ (c : Int) < (nM : Int) := by omega
      obtain rfl : c = nM := by omega
      go_wp2
      go_ret
      refine ⟨ret_bool ?_, lec HE.out HB.out⟩
      rw [← any_take_all (P := G) HNM.out, HNO.out]
end Go.Proofs.Qxb6500776a
