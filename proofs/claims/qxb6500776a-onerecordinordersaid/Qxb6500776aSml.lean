import Derived.Test.Qxb6500776aLw2
namespace Go.Proofs.Qxb6500776a
open Go.RowKit

/-- Two boards of equal notes read alike. -/
theorem lk_uniq {D D' : Shp → Shp → Nat → Prop} {B B' : Brd} (hb : Bd D B) (hb' : Bd D' B') {T i k : Nat} (hT : T < 4) (hi : i < 48) (hk : k < 4)
    (heq : ∀ o t : Shp, o.team = (T : Int) → t.id = (i : Int) → (D o t k ↔ D' o t k)) (inj : ∀ o t o' t', D o t k → D o' t' k → o.id = o'.id → t.id = t'.id → o = o' ∧ t = t') : lkP B T i k = lkP B' T i k := by
  rw [lkP_in B hT hi hk, lkP_in B' hT hi hk]
  have hs : (B T i k).seen = (B' T i k).seen := by
    cases e : (B T i k).seen <;> cases e' : (B' T i k).seen
    · rfl
    · obtain ⟨o, t, hd, h1, h2, _⟩ := hb'.some _ _ _ e'
      exact (hb.none _ _ _ e o t ((heq o t h1 h2).2 hd) h1 h2).elim
    · obtain ⟨o, t, hd, h1, h2, _⟩ := hb.some _ _ _ e
      exact (hb'.none _ _ _ e' o t ((heq o t h1 h2).1 hd) h1 h2).elim
    · rfl
  cases e : (B T i k).seen
  · rw [← hs, e]; rfl
  · have e' := hs.symm.trans e
    rw [e', if_pos rfl, if_pos rfl]
    obtain ⟨o, t, hd, h1, h2, h3, h4, h5⟩ := hb.some _ _ _ e
    obtain ⟨o', t', hd', h1', h2', h3', h4', h5'⟩ := hb'.some _ _ _ e'
    have l1 := hb.least _ _ _ e o' t' ((heq o' t' h1' h2').2 hd') h1' h2'
    have l2 := hb'.least _ _ _ e' o t ((heq o t h1 h2).1 hd) h1 h2
    have hobs : o.id = o'.id := by omega
    obtain ⟨rfl, rfl⟩ := inj o t o' t' hd ((heq o' t' h1' h2').2 hd') hobs (by omega)
    have a1 : (B T i k).obs = (B' T i k).obs := by omega
    have a2 : (B T i k).d = (B' T i k).d := by omega
    have a3 : (B T i k).g = (B' T i k).g := by rw [h5, h5']
    rw [a1, a2, a3]
theorem rep_eq {B B' : Brd} (h : ∀ T i k : Nat, T < 4 → i < 48 → k < 4 → lkP B T i k = lkP B' T i k) : ∀ n, n ≤ 768 → repN B n = repN B' n
  | 0, _ => rfl
  | n + 1, hn => by
    rw [repN, repN, rep_eq h n (by omega), h _ _ _ (by omega) (by omega) (by omega)]
theorem DF_inj {L : List Shp} {M M' : List Smk} (ho : WOk L M') {k : Nat} : ∀ o t o' t', DF (L.filter Shp.afloat) M o t k → DF (L.filter Shp.afloat) M o' t' k → o.id = o'.id → t.id = t'.id → o = o' ∧ t = t' := by
  rintro o t o' t' ⟨a, _, _, b, _⟩ ⟨a', _, _, b', _⟩ h1 h2
  exact ⟨same_id ho (List.mem_filter.1 a).1 (List.mem_filter.1 a').1 h1, same_id ho (List.mem_filter.1 b).1 (List.mem_filter.1 b').1 h2⟩
set_option maxRecDepth 100000 in
/-- same, of equal lists. -/
theorem same_any (w : World) (b1 b2 : Nat) (a1 a2 : Option Addr) (n c1 c2 : Nat) (Ds : List Det) (h1 : DRow w b1 (.slice a1 n c1) Ds) (h2 : DRow w b2 (.slice a2 n c2) Ds) (hn : n = Ds.length) (hl : n ≤ 768) :
    Calls Try.prog 14 #[.slice a1 n c1, .slice a2 n c2] w fun e w' => e = .returned (.bool true) ∧ Below w.heap.size w w' := by
  have H1 := hide h1
  have H2 := hide h2
  have HN := hide hn
  clear h1 h2 hn
  go_enter Try.func14, Try.ntmps14
  go_wp2
  go_loopw [5] (fun x wr => ∃ j : Nat, j ≤ n ∧ x = .int .i64 j ∧ Below w.heap.size w wr) (fun x _ => n - (intOf x).toNat)
  case atStart => exact ⟨0, by omega, rfl, Below.refl _ _⟩
  case round =>
    obtain ⟨j, hj, rfl, hb⟩ := hrel
    have HB := hide hb
    have R1 := H1.out.below hb
    have R2 := H2.out.below hb
    clear hb
    by_cases hlt : j < n
    · have hlti : (j : Int) < (n : Int) := by omega
      obtain ⟨d, hd⟩ : ∃ d, Ds[j]? = some d := ⟨_, List.getElem?_eq_getElem (by have := HN.out; omega)⟩
      obtain ⟨g, c9, e⟩ := own_some R1 (by have := HN.out; omega)
      cases e
      obtain ⟨g2, c8, e⟩ := own_some R2 (by have := HN.out; omega)
      cases e
      have p0 := R1.at HN.out hd (j := 0) (v := .int .i64 d.team) rfl
      have p1 := R1.at HN.out hd (j := 1) (v := .int .i64 d.target) rfl
      have p2 := R1.at HN.out hd (j := 2) (v := .int .i64 d.sensor) rfl
      have p3 := R1.at HN.out hd (j := 3) (v := .int .i64 d.obs) rfl
      have p4 := R1.at HN.out hd (j := 4) (v := .int .i64 d.d) rfl
      have p5 := R1.at HN.out hd (j := 5) (v := .int .i64 d.g) rfl
      have r0 := R2.at HN.out hd (j := 0) (v := .int .i64 d.team) rfl
      have r1 := R2.at HN.out hd (j := 1) (v := .int .i64 d.target) rfl
      have r2 := R2.at HN.out hd (j := 2) (v := .int .i64 d.sensor) rfl
      have r3 := R2.at HN.out hd (j := 3) (v := .int .i64 d.obs) rfl
      have r4 := R2.at HN.out hd (j := 4) (v := .int .i64 d.d) rfl
      have r5 := R2.at HN.out hd (j := 5) (v := .int .i64 d.g) rfl
      rw [Nat.add_zero] at p0 r0
      clear hd R1 R2
      go_upto_region 6 with fail
      go_quiet (fail)
      clear p0 p1 p2 p3 p4 p5 r0 r1 r2 r3 r4 r5
      go_wp2
      go_roundw
      case rel => exact ⟨j + 1, by omega, by simp, lec HB.out (belN _ _)⟩
      case measure => simp [intOf]; omega
    · have hlti : ¬ (j : Int) < (n : Int) := by omega
      clear R1 R2
      go_wp2
      go_ret
      exact ⟨rfl, HB.out⟩
/-- The ship of a number. -/
def shipP (L : List Shp) (id : Int) (r : Option Shp) : Prop :=
  match r with
  | none => ∀ s ∈ L, s.id ≠ id
  | some t => t ∈ L ∧ t.id = id
def shp0 : Shp := ⟨0, 0, 0, 0, 0, 0, 0, 0, false, false, false, false⟩
def ShPost (w : World) (L : List Shp) (id : Int) (e : Ending) (w' : World) : Prop := ∃ r : Option Shp, shipP L id r ∧ e = .returned (.tuple #[.agg (shpA (r.getD shp0)), .bool r.isSome]) ∧ Below w.heap.size w w'
set_option maxRecDepth 100000 in
theorem shipOf_any (w : World) (p : Nat) (v1 v2 : Value) (L : List Shp) (M : List Smk) (h : WD w p v1 v2 L M) (hl : L.length ≤ 48) (id : Int) :
    Calls Try.prog 17 #[.pointer (some ⟨p, 0, none⟩), .int .i64 id] w (ShPost w L id) := by
  have HW := hide (h.below (be1 w (.cells (shpA shp0) 38)))
  have HL := hide hl
  clear h hl
  go_enter Try.func17, Try.ntmps17
  go_wp2_with fail
  have hz : #[.int .i64 0, .int .i64 0, .int .i64 0, .int .i64 0, .int .i64 0, .int .i64 0, .int .i64 0, .int .i64 0, .bool false, .bool false, .bool false, .bool false] = shpA shp0 := rfl
  (try rw [hz])
  refine (find_any _ p v1 v2 L M HW.out HL.out id).mono ?_
  rintro e w' ⟨ix, rfl, hix, ew⟩
  rw [ew]
  clear ew w' hz
  rcases hix with ⟨rfl, hno⟩ | ⟨i, t, rfl, hi, hid⟩
  · have HNO := hide hno
    clear hno
    (try unfold shpA shp0)
    go_wp2
    exact bodyPost_ret (v := .tuple #[.agg (shpA shp0), .bool false]) (by simp [results, Try.results17, go_sem, shpA, shp0]) rfl ⟨none, HNO.out, rfl, be1 _ _⟩
  · have hil := (List.getElem?_eq_some_iff.1 hi).1
    obtain ⟨g, c, e1⟩ := own_some HW.out.r1 (by omega)
    have hrow := HW.out
    rw [e1] at hrow
    have hr := hrow.ship hi rfl
    have y0 := hrow.c0
    have k0 := hr 0 _ rfl
    have k1 := hr 1 _ rfl
    have k2 := hr 2 _ rfl
    have k3 := hr 3 _ rfl
    have k4 := hr 4 _ rfl
    have k5 := hr 5 _ rfl
    have k6 := hr 6 _ rfl
    have k7 := hr 7 _ rfl
    have k8 := hr 8 _ rfl
    have k9 := hr 9 _ rfl
    have k10 := hr 10 _ rfl
    have k11 := hr 11 _ rfl
    rw [Nat.add_zero] at k0
    have hl48 := HL.out
    obtain ⟨n, hn⟩ : ∃ n, L.length = n := ⟨_, rfl⟩
    rw [hn] at hil y0 hl48
    have HT := hide (And.intro (List.mem_of_getElem? hi) hid)
    clear hr hrow e1 hi hid hn HW HL
    (try unfold shpA shp0 at *)
    go_wp2
    exact bodyPost_ret (v := .tuple #[.agg (shpA t), .bool true]) (by simp [results, Try.results17, go_sem, shpA]) rfl ⟨some t, HT.out, rfl, be1 _ _⟩
def tgtP (Ds : List Det) (T i : Int) : Bool := hasP Ds T i 0 || hasP Ds T i 1 || hasP Ds T i 2 || hasP Ds T i 3
theorem targeted_any (w : World) (b : Nat) (a : Option Addr) (n c : Nat) (Ds : List Det) (h : DRow w b (.slice a n c) Ds) (hn : n = Ds.length) (hl : n ≤ 768) (T i : Int) :
    Calls Try.prog 26 #[.slice a n c, .int .i64 T, .int .i64 i] w fun e w' => e = .returned (.bool (tgtP Ds T i)) ∧ w' = w := by
  have HC := fun k => hide (has_any w b a n c Ds h hn hl T i k)
  clear h hn
  go_enter Try.func26, Try.ntmps26
  go_wp2
  go_loop [7] (fun x => ∃ k : Nat, k ≤ 4 ∧ x = .int .i64 k ∧ Hid (∀ y : Nat, y < k → hasP Ds T i y = false)) (fun x => 4 - (intOf x).toNat)
  case atStart => exact ⟨0, by omega, rfl, hide fun y hy => by omega⟩
  case round =>
    obtain ⟨k, hk, rfl, HA⟩ := hrel
    by_cases hlt : k < 4
    · have hlti : (k : Int) < 4 := by omega
      go_wp2_with fail
      refine (HC k).out.mono ?_
      rintro e w' ⟨rfl, ew⟩
      rw [ew]
      clear ew w'
      cases hh : hasP Ds T i k
      · have HH := hide hh
        clear hh
        go_wp2
        refine ⟨⟨k + 1, by omega, by go_num, hide fun y hy => ?_⟩, by simp [intOf]; omega⟩
        rcases (by omega : y < k ∨ y = k) with z | rfl
        · exact HA.out y z
        · exact HH.out
      · have HH := hide hh
        clear hh
        go_wp2
        go_ret
        refine ⟨ret_bool ?_, rfl⟩
        have hh := HH.out
        unfold tgtP
        rcases (by omega : k = 0 ∨ k = 1 ∨ k = 2 ∨ k = 3) with rfl | rfl | rfl | rfl
        · rw [show hasP Ds T i 0 = true from hh]; simp
        · rw [show hasP Ds T i 1 = true from hh]; simp
        · rw [show hasP Ds T i 2 = true from hh]; simp
        · rw [show hasP Ds T i 3 = true from hh]; simp
    · obtain rfl : k = 4 := by omega
      go_wp2
      go_ret
      refine ⟨ret_bool ?_, rfl⟩
      unfold tgtP
      rw [show hasP Ds T i 0 = false from HA.out 0 (by omega), show hasP Ds T i 1 = false from HA.out 1 (by omega), show hasP Ds T i 2 = false from HA.out 2 (by omega), show hasP Ds T i 3 = false from HA.out 3 (by omega)]
      rfl
end Go.Proofs.Qxb6500776a
