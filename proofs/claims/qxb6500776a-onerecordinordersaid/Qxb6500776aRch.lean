import Derived.Test.Qxb6500776aFoe
import Derived.Test.Qxb6500776aRoot
namespace Go.Proofs.Qxb6500776a
open Go.RowKit

/-- What load finds besides. -/
structure GS (C : Nat → Value) (A : List Shp) (v2 : Value) (ld tl : Int) (pg : Bool) : Prop where
  c3 : C 1714 = v2
  c4 : C 1715 = .int .i64 ld
  c5 : C 1716 = .int .i64 tl
  c6 : C 1717 = .bool pg
  l0 : 0 ≤ ld ∧ ld ≤ 240
  t0 : 0 ≤ tl ∧ tl ≤ 64
  hl : ∀ t ∈ A, srcP t ≤ ld
  ht : ∀ t ∈ A, t.depth = 0 → t.mast ≤ tl
  hp : pg = false → ∀ t ∈ A, pinP t = false
/-- Whatever o sees by sensor k lies within r. -/
def Rch (A : List Shp) (M : List Smk) (o : Shp) (k : Nat) (r : Int) : Prop := ∀ t ∈ A, seeP M o t k = true → Near o t r
def RchPost (w : World) (P : Int → Prop) (e : Ending) (w' : World) : Prop := ∃ r : Int, e = .returned (.int .i64 r) ∧ r ≤ 1099511627776 ∧ P r ∧ Below w.heap.size w w'
theorem rch_radar {A : List Shp} (hA : ∀ t ∈ A, ShpOk t) {o : Shp} {tl ra rb : Int} (ht : ∀ t ∈ A, t.depth = 0 → t.mast ≤ tl) (h1 : 0 ≤ ra) (h2 : 0 ≤ rb) (h3 : 16777216 * o.mast ≤ ra * ra) (h4 : 16777216 * tl ≤ rb * rb) (M : List Smk) : Rch A M o 0 (ra + rb) := by
  intro t hm hs
  have hs : radP M o t = true := hs
  unfold radP at hs
  simp only [Bool.and_eq_true, decide_eq_true_eq] at hs
  obtain ⟨⟨⟨_, hd⟩, hw⟩, _⟩ := hs
  have hmt := ht t hm hd
  have h0 := (hA t hm).mast
  have := wrs_le (by omega) h1 h2 h3 (show 16777216 * t.mast ≤ rb * rb by omega) hw
  exact near_of_dst (by omega) this
theorem rch_down {A : List Shp} {o : Shp} (h : upP o = false) (M : List Smk) (r : Int) : Rch A M o 0 r := by
  intro t hm hs
  have hs : radP M o t = true := hs
  unfold radP at hs
  rw [h] at hs
  simp at hs
theorem up_ok {o : Shp} : upP o = true ∨ upP o = false := by cases upP o <;> simp
set_option maxRecDepth 100000 in
set_option maxHeartbeats 1000000 in
theorem radarReach_any (w : World) (s : Nat) (C : Nat → Value) (A : List Shp) (v2 : Value) (ld tl : Int) (pg : Bool) (h : CB w s C) (hs : GS C A v2 ld tl pg) (hA : ∀ t ∈ A, ShpOk t) (o : Shp) (ho : ShpOk o) :
    Calls Try.prog 53 #[.pointer (some ⟨s, 0, none⟩), .agg #[.int .i64 o.id, .int .i64 o.team, .int .i64 o.x, .int .i64 o.y, .int .i64 o.depth, .int .i64 o.speed, .int .i64 o.mast, .int .i64 o.noise, .bool o.afloat, .bool o.radar, .bool o.sonar, .bool o.ping]] w (RchPost w fun r => ∀ M, Rch A M o 0 r) := by
  have c1 := fun w => hide (up_any w o)
  have hm := ho.mast
  have htl := hs.t0
  have HS := hide hs
  have HA := hide hA
  clear hs hA ho
  obtain ⟨u, hu⟩ : ∃ u, upP o = u := ⟨_, rfl⟩
  rw [hu] at c1
  have HU := hide hu
  clear hu
  have HX := hide (BX.new w o)
  have HE := hide (be1 w (.cells (shpA o) 38))
  have HC := hide (h.below (be1 w (.cells (shpA o) 38)))
  clear h
  go_enter Try.func53, Try.ntmps53
  go_upto_region 1 with fail
  have hsa : #[.int .i64 o.id, .int .i64 o.team, .int .i64 o.x, .int .i64 o.y, .int .i64 o.depth, .int .i64 o.speed, .int .i64 o.mast, .int .i64 o.noise, .bool o.afloat, .bool o.radar, .bool o.sonar, .bool o.ping] = shpA o := rfl
  rw [hsa]
  clear hsa
  generalize w.alloc (.cells (shpA o) 38) = w1 at *
  obtain ⟨q, hq⟩ : ∃ q, w.heap.size = q := ⟨_, rfl⟩
  rw [hq] at HX ⊢
  clear hq

  obtain ⟨x0, x1, x2, x3, x4, x5, x6, x7, x8, x9, x10, x11⟩ := HX.out
  go_wp2_with fail
  have hsa : shpA o = #[.int .i64 o.id, .int .i64 o.team, .int .i64 o.x, .int .i64 o.y, .int .i64 o.depth, .int .i64 o.speed, .int .i64 o.mast, .int .i64 o.noise, .bool o.afloat, .bool o.radar, .bool o.sonar, .bool o.ping] := rfl
  (try rw [hsa])
  refine (c1 _).out.mono ?_
  rintro e w2 ⟨rfl, b2⟩
  replace HX := hide (HX.out.below b2)
  replace HC := hide (HC.out.below b2)
  replace HE := hide (lec HE.out b2)
  clear c1 b2 hsa x0 x1 x2 x3 x4 x5 x6 x7 x8 x9 x10 x11
  cases u
  · go_wp2
    go_ret
    exact ⟨-1, rfl, by omega, fun M => rch_down HU.out M _, HE.out⟩
  · have x6 := HX.out.c6
    have z5 := HC.out.c 1716 (by omega)
    rw [HS.out.c5] at z5
    have wm : IntKind.i64.wrap (16777216 * o.mast) = 16777216 * o.mast := IntWalk.i64_in _ (by omega)
    have wt : IntKind.i64.wrap (16777216 * tl) = 16777216 * tl := IntWalk.i64_in _ (by omega)
    go_upto_region 3 with fail
    have tk1 : True := trivial
    have tk2 : True := trivial
    go_region_held3 (fun w' => w'.cell? ⟨q, 6, none⟩ = some (.int .i64 o.mast) ∧ w'.cell? ⟨s, 1716, none⟩ = some (.int .i64 tl)) (simp [*, go_sem])
      (first
        | (go_at_call 71; have _t := tk1; clear tk1; refine (isqrtCeil_any _ (16777216 * o.mast) (by omega)).mono ?_; rintro e w3 ⟨⟨ra, rfl, a1, a2, a3⟩, ew⟩; rw [ew]; clear ew w3)
        | (go_at_call 71; have _t := tk2; clear tk2; refine (isqrtCeil_any _ (16777216 * tl) (by omega)).mono ?_; rintro e w3 ⟨⟨rb, rfl, b1, b2, b3⟩, ew⟩; rw [ew]; clear ew w3))
    all_goals
      go_wp2
      go_ret
      exact ⟨ra + rb, ret_int (IntWalk.i64_in _ (by omega)), by omega, fun M => rch_radar HA.out HS.out.ht a1 b1 a3 b3 M, HE.out.drew⟩
theorem rch_deaf {A : List Shp} {o : Shp} (h : o.sonar = false) (M : List Smk) (r : Int) : Rch A M o 1 r := by
  intro t hm hs
  have hs : (o.sonar && decide (10 ≤ excP o t (dstP o t))) = true := hs
  rw [h] at hs
  simp at hs
theorem heard_dec {A : List Shp} {o t : Shp} {ld : Int} (hl : ∀ t ∈ A, srcP t ≤ ld) (hm : t ∈ A) {M : List Smk} (hs : seeP M o t 1 = true) : (decP (dstP o t) : Int) ≤ ld - ownP o - 10 := by
  have hs : (o.sonar && decide (10 ≤ excP o t (dstP o t))) = true := hs
  simp only [Bool.and_eq_true, decide_eq_true_eq] at hs
  have h1 := hs.2
  have h2 := hl t hm
  have h3 := lay_rng o t
  unfold excP at h1
  omega
theorem rch_quiet {A : List Shp} {o : Shp} {ld : Int} (hl : ∀ t ∈ A, srcP t ≤ ld) (h : ld - ownP o - 10 < 0) (M : List Smk) (r : Int) : Rch A M o 1 r := by
  intro t hm hs
  have := heard_dec hl hm hs
  omega
theorem rch_whole {A : List Shp} (hA : ∀ t ∈ A, ShpOk t) {o : Shp} (ho : ShpOk o) (M : List Smk) (k : Nat) : Rch A M o k 2097152 := by
  intro t hm _
  have h1 := (hA t hm).x
  have h2 := (hA t hm).y
  have h3 := ho.x
  have h4 := ho.y
  unfold OnM at h1 h2 h3 h4
  unfold Near
  omega
theorem rch_loud {A : List Shp} {o : Shp} {ld r : Int} {n : Nat} (hl : ∀ t ∈ A, srcP t ≤ ld) (hn : ld - ownP o - 10 = n) (h : n < 130) (hr : 0 ≤ r) (h2 : lossP (n + 1) ≤ r * r) (M : List Smk) : Rch A M o 1 r := by
  intro t hm hs
  have h3 := heard_dec hl hm hs
  have := decP_lt h (show decP (dstP o t) ≤ n by omega)
  exact near_of_dst hr (by omega)
theorem loss_le : ∀ k, k < 131 → lossP k ≤ 10000000000000 := by decide +kernel
set_option maxRecDepth 100000 in
set_option maxHeartbeats 1000000 in
theorem passiveReach_any (w : World) (s : Nat) (C : Nat → Value) (A : List Shp) (v2 : Value) (ld tl : Int) (pg : Bool) (h : CB w s C) (hs : GS C A v2 ld tl pg) (hA : ∀ t ∈ A, ShpOk t) (o : Shp) (ho : ShpOk o) :
    Calls Try.prog 57 #[.pointer (some ⟨s, 0, none⟩), .agg #[.int .i64 o.id, .int .i64 o.team, .int .i64 o.x, .int .i64 o.y, .int .i64 o.depth, .int .i64 o.speed, .int .i64 o.mast, .int .i64 o.noise, .bool o.afloat, .bool o.radar, .bool o.sonar, .bool o.ping]] w (RchPost w fun r => (∀ M, Rch A M o 1 r) ∧ (o.sonar = false → r < 0)) := by
  have c1 := fun w => hide (own_any w o ho)
  have how : 40 ≤ ownP o ∧ ownP o ≤ 80 := by have := ho.speed; unfold ownP; omega
  have hld := hs.l0
  have HS := hide hs
  have HA := hide hA
  have HOK := hide ho
  clear hs hA ho
  obtain ⟨on, hon⟩ : ∃ u, ownP o = u := ⟨_, rfl⟩
  rw [hon] at c1 how
  have HON := hide hon
  clear hon
  have HX := hide (BX.new w o)
  have HE := hide (be1 w (.cells (shpA o) 38))
  have HC := hide (h.below (be1 w (.cells (shpA o) 38)))
  clear h
  go_enter Try.func57, Try.ntmps57
  go_upto_region 1 with fail
  have hsa : #[.int .i64 o.id, .int .i64 o.team, .int .i64 o.x, .int .i64 o.y, .int .i64 o.depth, .int .i64 o.speed, .int .i64 o.mast, .int .i64 o.noise, .bool o.afloat, .bool o.radar, .bool o.sonar, .bool o.ping] = shpA o := rfl
  rw [hsa]
  clear hsa
  generalize w.alloc (.cells (shpA o) 38) = w1 at *
  obtain ⟨q, hq⟩ : ∃ q, w.heap.size = q := ⟨_, rfl⟩
  rw [hq] at HX ⊢
  clear hq

  cases hson : o.sonar
  · have x10 := HX.out.c10
    rw [hson] at x10
    have HSO := hide hson
    clear hson
    go_wp2
    go_ret
    exact ⟨-1, rfl, by omega, ⟨fun M => rch_deaf HSO.out M _, fun _ => by omega⟩, HE.out⟩
  · have HSO := hide hson
    clear hson
    have x10' := HX.out.c10
    rw [HSO.out] at x10'
    go_upto_region 3 with fail
    clear x10'
    obtain ⟨x0, x1, x2, x3, x4, x5, x6, x7, x8, x9, x10, x11⟩ := HX.out
    have z4 := HC.out.c 1715 (by omega)
    rw [HS.out.c4] at z4
    have w1' : IntKind.i64.wrap (ld - on) = ld - on := IntWalk.i64_in _ (by omega)
    have w2' : IntKind.i64.wrap (ld - on - 10) = ld - on - 10 := IntWalk.i64_in _ (by omega)
    go_region_held3 (fun w' => w'.cell? ⟨s, 1715, none⟩ = some (.int .i64 ld) ∧ w'.cell? ⟨q, 0, none⟩ = some (.int .i64 o.id) ∧ w'.cell? ⟨q, 1, none⟩ = some (.int .i64 o.team) ∧ w'.cell? ⟨q, 2, none⟩ = some (.int .i64 o.x) ∧ w'.cell? ⟨q, 3, none⟩ = some (.int .i64 o.y) ∧ w'.cell? ⟨q, 4, none⟩ = some (.int .i64 o.depth) ∧ w'.cell? ⟨q, 5, none⟩ = some (.int .i64 o.speed) ∧ w'.cell? ⟨q, 6, none⟩ = some (.int .i64 o.mast) ∧ w'.cell? ⟨q, 7, none⟩ = some (.int .i64 o.noise) ∧ w'.cell? ⟨q, 8, none⟩ = some (.bool o.afloat) ∧ w'.cell? ⟨q, 9, none⟩ = some (.bool o.radar) ∧ w'.cell? ⟨q, 10, none⟩ = some (.bool o.sonar) ∧ w'.cell? ⟨q, 11, none⟩ = some (.bool o.ping)) (simp [*, go_sem])
      (first
        | (go_at_call 73; refine (c1 _).out.mono ?_; rintro e w3 ⟨rfl, b3⟩; (try replace b3 := of_drew b3); have z4' := (HC.out.below b3).c 1715 (by omega); rw [HS.out.c4] at z4'; obtain ⟨y0, y1, y2, y3, y4, y5, y6, y7, y8, y9, y10, y11⟩ := HX.out.below b3; have HE3 := hide (lec HE.out b3); clear b3))
    all_goals
      clear z4 z4' x0 x1 x2 x3 x4 x5 x6 x7 x8 x9 x10 x11 y0 y1 y2 y3 y4 y5 y6 y7 y8 y9 y10 y11
      by_cases h1 : ld - on - 10 < 0
      · go_wp2
        go_ret
        exact ⟨-1, rfl, by omega, ⟨fun M => rch_quiet HS.out.hl (by rw [HON.out]; exact h1) M _, fun _ => by omega⟩, HE3.out⟩
      · by_cases h2 : 130 ≤ ld - on - 10
        · go_wp2
          go_ret
          exact ⟨2097152, rfl, by omega, ⟨fun M => rch_whole HA.out HOK.out M 1, fun e => by rw [HSO.out] at e; cases e⟩, HE3.out⟩
        · obtain ⟨n, hn⟩ : ∃ n : Nat, ld - on - 10 = n := ⟨(ld - on - 10).toNat, by omega⟩
          have HN := hide hn
          rw [hn] at ⊢
          have hn130 : n < 130 := by omega
          have hni : (n : Int) < 130 := by omega
          have hn1 : (n : Int) + 1 = ((n + 1 : Nat) : Int) := by omega
          obtain ⟨n1, hn1'⟩ : ∃ n1, n + 1 = n1 := ⟨_, rfl⟩
          rw [hn1'] at hn1
          have HN1 := hide hn1'
          have hl1 := loss_le n1 (by omega)
          clear w1' w2' h1 h2 hn hn1'
          go_wp2_with fail
          refine (lossRange_any _ n1 (by have := HN1.out; omega)).mono ?_
          rintro e w4 ⟨rfl, ew⟩
          rw [ew]
          clear ew w4
          go_wp2_with fail
          refine (isqrtCeil_any _ (lossP n1) (by omega)).mono ?_
          rintro e w4 ⟨⟨r, rfl, r0, r1, r2⟩, ew⟩
          rw [ew]
          clear ew w4
          go_wp2
          go_ret
          exact ⟨r, rfl, by omega, ⟨fun M => rch_loud HS.out.hl (by rw [HON.out]; exact HN.out) hn130 r0 (by rw [HN1.out]; exact r2) M, fun e => by rw [HSO.out] at e; cases e⟩, HE3.out⟩
set_option maxRecDepth 100000 in
set_option maxHeartbeats 1000000 in
theorem pingReach_any (w : World) (s : Nat) (C : Nat → Value) (A : List Shp) (v2 : Value) (ld tl : Int) (pg : Bool) (h : CB w s C) (hs : GS C A v2 ld tl pg) (o : Shp) (hm : o ∈ A) :
    Calls Try.prog 60 #[.pointer (some ⟨s, 0, none⟩), .agg #[.int .i64 o.id, .int .i64 o.team, .int .i64 o.x, .int .i64 o.y, .int .i64 o.depth, .int .i64 o.speed, .int .i64 o.mast, .int .i64 o.noise, .bool o.afloat, .bool o.radar, .bool o.sonar, .bool o.ping]] w (RchPost w fun r => ∀ M, Rch A M o 2 r ∧ Rch A M o 3 r) := by
  have HS := hide hs
  have HM := hide hm
  clear hs hm
  have HX := hide (BX.new w o)
  have HE := hide (be1 w (.cells (shpA o) 38))
  have HC := hide (h.below (be1 w (.cells (shpA o) 38)))
  clear h
  go_enter Try.func60, Try.ntmps60
  go_upto_region 1 with fail
  have hsa : #[.int .i64 o.id, .int .i64 o.team, .int .i64 o.x, .int .i64 o.y, .int .i64 o.depth, .int .i64 o.speed, .int .i64 o.mast, .int .i64 o.noise, .bool o.afloat, .bool o.radar, .bool o.sonar, .bool o.ping] = shpA o := rfl
  rw [hsa]
  clear hsa
  generalize w.alloc (.cells (shpA o) 38) = w1 at *
  obtain ⟨q, hq⟩ : ∃ q, w.heap.size = q := ⟨_, rfl⟩
  rw [hq] at HX ⊢
  clear hq

  have z6 := HC.out.c 1717 (by omega)
  rw [HS.out.c6] at z6
  have x10 := HX.out.c10
  cases hson : o.sonar
  · rw [hson] at x10
    have HSO := hide hson
    clear hson
    go_wp2
    go_ret
    refine ⟨-1, rfl, by omega, fun M => ⟨fun t ht hse => ?_, fun t ht hse => ?_⟩, HE.out⟩
    · have hse : findP o (dstP o t) = true := hse
      simp [findP, pinP, HSO.out] at hse
    · have hse : hearP o t (dstP o t) = true := hse
      simp [hearP, HSO.out] at hse
  · rw [hson] at x10
    have HSO := hide hson
    clear hson
    cases pg
    · go_wp2
      go_ret
      refine ⟨-1, rfl, by omega, fun M => ⟨fun t ht hse => ?_, fun t ht hse => ?_⟩, HE.out⟩
      · have hse : findP o (dstP o t) = true := hse
        simp [findP, HS.out.hp rfl o HM.out] at hse
      · have hse : hearP o t (dstP o t) = true := hse
        simp [hearP, HS.out.hp rfl t ht] at hse
    · go_wp2
      go_ret
      refine ⟨80000, rfl, by omega, fun M => ⟨fun t ht hse => ?_, fun t ht hse => ?_⟩, HE.out⟩
      · have hse : findP o (dstP o t) = true := hse
        simp only [findP, Bool.and_eq_true, decide_eq_true_eq] at hse
        exact near_of_dst (by omega) (by have := hse.2; omega)
      · have hse : hearP o t (dstP o t) = true := hse
        simp only [hearP, Bool.and_eq_true, decide_eq_true_eq] at hse
        exact near_of_dst (by omega) (by have := hse.2; omega)
end Go.Proofs.Qxb6500776a
