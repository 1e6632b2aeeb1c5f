import Derived.Test.Qxb6500776aLdp
namespace Go.Proofs.Qxb6500776a
open Go.RowKit

def LodPost (w : World) (s : Nat) (v2 : Value) (L : List Shp) (M : List Smk) (e : Ending) (w' : World) : Prop :=
  e = .returned (.tuple #[]) ∧ ∃ ld tl pg, SCN w' s (L.filter Shp.afloat) v2 ld tl pg M B0 ∧ Ex (fun k => k = s) w w'
theorem filt_next {L : List Shp} {i : Nat} {t : Shp} (h : L[i]? = some t) : (L.take (i + 1)).filter Shp.afloat = (L.take i).filter Shp.afloat ++ (if t.afloat then [t] else []) := by
  rw [List.take_add_one, h, List.filter_append]
  congr 1
  cases e : t.afloat <;> simp [List.filter, e]
theorem filt_len (L : List Shp) (i : Nat) : ((L.take i).filter Shp.afloat).length ≤ i := Nat.le_trans (List.length_filter_le _ _) (by rw [List.length_take]; omega)
set_option maxRecDepth 100000 in
set_option maxHeartbeats 4000000 in
theorem load_any (w : World) (s : Nat) (C : Nat → Value) (p : Nat) (v1 v2 : Value) (L : List Shp) (M : List Smk) (h : CB w s C) (hw : WD w p v1 v2 L M) (ho : WOk L M) (hs : ¬ Foot p v1 v2 s) :
    Calls Try.prog 33 #[.pointer (some ⟨s, 0, none⟩), .pointer (some ⟨p, 0, none⟩)] w (LodPost w s v2 L M) := by
  obtain ⟨a1, cap, e1⟩ := own_form hw.r1
  obtain ⟨n, hn⟩ : ∃ n, L.length = n := ⟨_, rfl⟩
  have hn48 : n ≤ 48 := by rw [← hn]; exact ho.len
  have HN := hide hn
  have hps : ¬ p = s := fun e => hs (.inl e.symm)
  have hsp : ¬ s = p := fun e => hs (.inl e)
  have HW := hide hw
  have HO := hide ho
  have HC := hide h
  have HF := hide (show ∀ k, Foot p v1 v2 k → ¬ k = s from fun k hk e => hs (e ▸ hk))
  rw [hn] at e1
  have E1 := hide e1
  clear h hw ho hs hn e1
  go_enter Try.func33, Try.ntmps33
  go_wp2_with fail
  refine (reset_any _ s C HC.out).mono ?_
  rintro e w1 ⟨rfl, C1, hc1, h1, h2, ex1⟩
  have HW1 := hide (HW.out.keep ex1 HF.out)
  have y1 := HW1.out.c1
  have q3 := hc1.c 1713 (by omega)
  have q4 := hc1.c 1714 (by omega)
  have q5 := hc1.c 1715 (by omega)
  have q6 := hc1.c 1716 (by omega)
  have q7 := hc1.c 1717 (by omega)
  have f3 := hc1.fr 1713
  have f4 := hc1.fr 1714
  have f5 := hc1.fr 1715
  have f6 := hc1.fr 1716
  have f7 := hc1.fr 1717
  obtain ⟨a2, cp2, e2⟩ := own_form HW.out.r2
  have hone : v2.oneCell' = true := by rw [e2]; rfl
  have HC5 := hide (((((hc1.set (j := 1713) (by omega) (.int .i64 0)).set (j := 1714) (by omega) v2).set (j := 1715) (by omega) (.int .i64 0)).set (j := 1716) (by omega) (.int .i64 0)).set (j := 1717) (by omega) (.bool false))
  have HE5 := hide (((((ex1.set (p := s) (j := 1713) rfl (.int .i64 0)).set (p := s) (j := 1714) rfl v2).set (p := s) (j := 1715) rfl (.int .i64 0)).set (p := s) (j := 1716) rfl (.int .i64 0)).set (p := s) (j := 1717) rfl (.bool false))
  have HL5 : Hid (LC (updC (updC (updC (updC (updC C1 1713 (.int .i64 0)) 1714 v2) 1715 (.int .i64 0)) 1716 (.int .i64 0)) 1717 (.bool false)) [] v2 0 0 false [] [] []) := by
    refine ⟨⟨fun c hc => ?_, fun i hi => by simp at hi⟩, fun i t ht => by simp at ht, ?_, ?_, ?_, ?_, ?_, by omega, by omega, fun t ht => by simp at ht, fun t ht => by simp at ht, fun _ t ht => by simp at ht, by simp⟩
    · rw [updC_other _ _ (by omega), updC_other _ _ (by omega), updC_other _ _ (by omega), updC_other _ _ (by omega), updC_other _ _ (by omega), h1 c hc]; rfl
    · rw [updC_other _ _ (by omega), updC_other _ _ (by omega), updC_other _ _ (by omega), updC_other _ _ (by omega), updC_same]; rfl
    · rw [updC_other _ _ (by omega), updC_other _ _ (by omega), updC_other _ _ (by omega), updC_same]
    · rw [updC_other _ _ (by omega), updC_other _ _ (by omega), updC_same]
    · rw [updC_other _ _ (by omega), updC_same]
    · rw [updC_same]
  rw [e2] at y1 HC5 HE5
  have E2 := hide e2
  clear h1 h2 hc1 ex1 e2 hone
  go_wp2
  go_loopw [4] (fun si wr => ∃ (i : Nat) (C' : Nat → Value) (ld tl : Int) (pg : Bool), i ≤ n ∧ si = .int .i64 i ∧ CB wr s C' ∧ LC C' ((L.take i).filter Shp.afloat) v2 ld tl pg ((L.take i).filter Shp.afloat) ((L.take i).filter Shp.afloat) ((L.take i).filter Shp.afloat) ∧ Ex (fun k => k = s) w wr) (fun si _ => n - (intOf si).toNat)
  case atStart =>
    refine ⟨0, _, 0, 0, false, by omega, rfl, HC5.out, ?_, HE5.out⟩
    rw [← E2.out]
    exact HL5.out
  case round =>
    clear HC5 HE5 HL5 HW1 y1 q3 q4 q5 q6 q7 f3 f4 f5 f6 f7 HC
    obtain ⟨i, C2, ld, tl, pg, hi, rfl, hc, hl, hex⟩ := hrel
    have HC := hide hc
    have HL := hide hl
    have HE := hide hex
    have HW1 := hide (HW.out.keep hex HF.out)
    have y0 := HW1.out.c0
    rw [E1.out] at y0
    clear hc hl hex
    by_cases hlt : i < n
    · obtain ⟨t, ht⟩ : ∃ t, L[i]? = some t := ⟨_, List.getElem?_eq_getElem (by have := HN.out; omega)⟩
      obtain ⟨g, c2, e3⟩ := own_some HW1.out.r1 (by have := HN.out; omega)
      rw [HN.out, E1.out] at e3
      cases e3
      have hrow := HW1.out
      rw [E1.out] at hrow
      have hr := hrow.ship ht HN.out.symm
      have k0 := hr 0 _ rfl
      have k1 := hr 1 _ rfl
      have k2 := hr 2 _ rfl
      have k3 := hr 3 _ rfl
      have k4 := hr 4 _ rfl
      have k5 := hr 5 _ rfl
      have k6 := hr 6 _ rfl
      have k7 := hr 7 _ rfl
      have k8 := hr 8 _ rfl
      have k9 := hr 9 _ rfl
      have k10 := hr 10 _ rfl
      have k11 := hr 11 _ rfl
      rw [Nat.add_zero] at k0
      have htok := HO.out.ok t (List.mem_of_getElem? ht)
      have HT := hide (And.intro ht htok)
      have hfn := filt_next ht
      have hlen := filt_len L i
      clear hr hrow ht htok
      have HFN := hide hfn
      clear hfn
      go_upto_region 10 with fail
      have hst : #[.int .i64 t.id, .int .i64 t.team, .int .i64 t.x, .int .i64 t.y, .int .i64 t.depth, .int .i64 t.speed, .int .i64 t.mast, .int .i64 t.noise, .bool t.afloat, .bool t.radar, .bool t.sonar, .bool t.ping] = shpA t := rfl
      rw [hst]
      clear hst
      have HX := hide (BX.new wr t)
      have HC3 := hide (HC.out.below (be1 wr (.cells (shpA t) 38)))
      have HE3 := hide (HE.out.alloc (.cells (shpA t) 38))
      generalize wr.alloc (.cells (shpA t) 38) = wa at *
      have hqs : ¬ wr.heap.size = s := fun e => by have := HC.out.lt; omega
      obtain ⟨q, hq⟩ : ∃ q, wr.heap.size = q := ⟨_, rfl⟩
      rw [hq] at HX hqs ⊢
      clear hq k0 k1 k2 k3 k4 k5 k6 k7 k8 k9 k10 k11 y0 HC HE HW1
      have x8 := HX.out.c8
      cases haf : t.afloat
      · rw [haf] at x8
        have HAF := hide haf
        clear haf
        go_wp2
        go_roundw
        case rel =>
          refine ⟨i + 1, C2, ld, tl, pg, by omega, by simp, HC3.out, ?_, HE3.out⟩
          rw [HFN.out, HAF.out]
          simpa using HL.out
        case measure => simp [intOf]; omega
      · rw [haf] at x8
        have HAF := hide haf
        clear haf
        go_upto_region 11 with fail
        clear x8
        obtain ⟨A, hA⟩ : ∃ A, (L.take i).filter Shp.afloat = A := ⟨_, rfl⟩
        rw [hA] at HL HFN hlen
        clear hA
        obtain ⟨m, hm⟩ : ∃ m, A.length = m := ⟨_, rfl⟩
        rw [hm] at hlen
        have HMm := hide hm
        have hm48 : m < 48 := by omega
        have hm48i : (m : Int) < 48 := by omega
        have z3 := HC3.out.c 1713 (by omega)
        rw [HL.out.ct, hm] at z3
        clear hm
        have d0 := HC3.out.c (1137 + m * 12) (by omega)
        have f0 := HC3.out.fr (1137 + m * 12)
        have d1 := HC3.out.c (1137 + m * 12 + 1) (by omega)
        have f1 := HC3.out.fr (1137 + m * 12 + 1)
        have d2 := HC3.out.c (1137 + m * 12 + 2) (by omega)
        have f2 := HC3.out.fr (1137 + m * 12 + 2)
        have d3 := HC3.out.c (1137 + m * 12 + 3) (by omega)
        have f3 := HC3.out.fr (1137 + m * 12 + 3)
        have d4 := HC3.out.c (1137 + m * 12 + 4) (by omega)
        have f4 := HC3.out.fr (1137 + m * 12 + 4)
        have d5 := HC3.out.c (1137 + m * 12 + 5) (by omega)
        have f5 := HC3.out.fr (1137 + m * 12 + 5)
        have d6 := HC3.out.c (1137 + m * 12 + 6) (by omega)
        have f6 := HC3.out.fr (1137 + m * 12 + 6)
        have d7 := HC3.out.c (1137 + m * 12 + 7) (by omega)
        have f7 := HC3.out.fr (1137 + m * 12 + 7)
        have d8 := HC3.out.c (1137 + m * 12 + 8) (by omega)
        have f8 := HC3.out.fr (1137 + m * 12 + 8)
        have d9 := HC3.out.c (1137 + m * 12 + 9) (by omega)
        have f9 := HC3.out.fr (1137 + m * 12 + 9)
        have d10 := HC3.out.c (1137 + m * 12 + 10) (by omega)
        have f10 := HC3.out.fr (1137 + m * 12 + 10)
        have d11 := HC3.out.c (1137 + m * 12 + 11) (by omega)
        have f11 := HC3.out.fr (1137 + m * 12 + 11)
        have zS := And.intro z3 (BX.conj HX.out)
        have HC4 := hide (CB.sets t.vals HC3.out (1137 + m * 12) (by rw [Shp.vals_len]; omega)).drew
        have HX4 := hide (HX.out.keep (Ex.sets (S := fun k => k = s) rfl t.vals (1137 + m * 12) wa (Ex.refl _ _)) hqs).drew
        have HE4 := hide (Ex.sets (S := fun k => k = s) rfl t.vals (1137 + m * 12) wa HE3.out).drew
        have z34 := HC4.out.c 1713 (by omega)
        rw [updCs_hi _ _ _ _ (by rw [Shp.vals_len]; omega), HL.out.ct, HMm.out] at z34
        have zS4 := And.intro z34 (BX.conj HX4.out)
        have ZS4 : Hid (((((((((((((wa.setCell ⟨s, 1137 + m * 12, none⟩ (.int .i64 t.id)).setCell ⟨s, 1137 + m * 12 + 1, none⟩ (.int .i64 t.team)).setCell ⟨s, 1137 + m * 12 + 2, none⟩ (.int .i64 t.x)).setCell ⟨s, 1137 + m * 12 + 3, none⟩ (.int .i64 t.y)).setCell ⟨s, 1137 + m * 12 + 4, none⟩ (.int .i64 t.depth)).setCell ⟨s, 1137 + m * 12 + 5, none⟩ (.int .i64 t.speed)).setCell ⟨s, 1137 + m * 12 + 6, none⟩ (.int .i64 t.mast)).setCell ⟨s, 1137 + m * 12 + 7, none⟩ (.int .i64 t.noise)).setCell ⟨s, 1137 + m * 12 + 8, none⟩ (.bool t.afloat)).setCell ⟨s, 1137 + m * 12 + 9, none⟩ (.bool t.radar)).setCell ⟨s, 1137 + m * 12 + 10, none⟩ (.bool t.sonar)).setCell ⟨s, 1137 + m * 12 + 11, none⟩ (.bool t.ping)).drew.cell? ⟨s, 1713, none⟩ = some (.int .i64 m) ∧ ((((((((((((wa.setCell ⟨s, 1137 + m * 12, none⟩ (.int .i64 t.id)).setCell ⟨s, 1137 + m * 12 + 1, none⟩ (.int .i64 t.team)).setCell ⟨s, 1137 + m * 12 + 2, none⟩ (.int .i64 t.x)).setCell ⟨s, 1137 + m * 12 + 3, none⟩ (.int .i64 t.y)).setCell ⟨s, 1137 + m * 12 + 4, none⟩ (.int .i64 t.depth)).setCell ⟨s, 1137 + m * 12 + 5, none⟩ (.int .i64 t.speed)).setCell ⟨s, 1137 + m * 12 + 6, none⟩ (.int .i64 t.mast)).setCell ⟨s, 1137 + m * 12 + 7, none⟩ (.int .i64 t.noise)).setCell ⟨s, 1137 + m * 12 + 8, none⟩ (.bool t.afloat)).setCell ⟨s, 1137 + m * 12 + 9, none⟩ (.bool t.radar)).setCell ⟨s, 1137 + m * 12 + 10, none⟩ (.bool t.sonar)).setCell ⟨s, 1137 + m * 12 + 11, none⟩ (.bool t.ping)).drew.cell? ⟨q, 0, none⟩ = some (.int .i64 t.id) ∧ ((((((((((((wa.setCell ⟨s, 1137 + m * 12, none⟩ (.int .i64 t.id)).setCell ⟨s, 1137 + m * 12 + 1, none⟩ (.int .i64 t.team)).setCell ⟨s, 1137 + m * 12 + 2, none⟩ (.int .i64 t.x)).setCell ⟨s, 1137 + m * 12 + 3, none⟩ (.int .i64 t.y)).setCell ⟨s, 1137 + m * 12 + 4, none⟩ (.int .i64 t.depth)).setCell ⟨s, 1137 + m * 12 + 5, none⟩ (.int .i64 t.speed)).setCell ⟨s, 1137 + m * 12 + 6, none⟩ (.int .i64 t.mast)).setCell ⟨s, 1137 + m * 12 + 7, none⟩ (.int .i64 t.noise)).setCell ⟨s, 1137 + m * 12 + 8, none⟩ (.bool t.afloat)).setCell ⟨s, 1137 + m * 12 + 9, none⟩ (.bool t.radar)).setCell ⟨s, 1137 + m * 12 + 10, none⟩ (.bool t.sonar)).setCell ⟨s, 1137 + m * 12 + 11, none⟩ (.bool t.ping)).drew.cell? ⟨q, 1, none⟩ = some (.int .i64 t.team) ∧ ((((((((((((wa.setCell ⟨s, 1137 + m * 12, none⟩ (.int .i64 t.id)).setCell ⟨s, 1137 + m * 12 + 1, none⟩ (.int .i64 t.team)).setCell ⟨s, 1137 + m * 12 + 2, none⟩ (.int .i64 t.x)).setCell ⟨s, 1137 + m * 12 + 3, none⟩ (.int .i64 t.y)).setCell ⟨s, 1137 + m * 12 + 4, none⟩ (.int .i64 t.depth)).setCell ⟨s, 1137 + m * 12 + 5, none⟩ (.int .i64 t.speed)).setCell ⟨s, 1137 + m * 12 + 6, none⟩ (.int .i64 t.mast)).setCell ⟨s, 1137 + m * 12 + 7, none⟩ (.int .i64 t.noise)).setCell ⟨s, 1137 + m * 12 + 8, none⟩ (.bool t.afloat)).setCell ⟨s, 1137 + m * 12 + 9, none⟩ (.bool t.radar)).setCell ⟨s, 1137 + m * 12 + 10, none⟩ (.bool t.sonar)).setCell ⟨s, 1137 + m * 12 + 11, none⟩ (.bool t.ping)).drew.cell? ⟨q, 2, none⟩ = some (.int .i64 t.x) ∧ ((((((((((((wa.setCell ⟨s, 1137 + m * 12, none⟩ (.int .i64 t.id)).setCell ⟨s, 1137 + m * 12 + 1, none⟩ (.int .i64 t.team)).setCell ⟨s, 1137 + m * 12 + 2, none⟩ (.int .i64 t.x)).setCell ⟨s, 1137 + m * 12 + 3, none⟩ (.int .i64 t.y)).setCell ⟨s, 1137 + m * 12 + 4, none⟩ (.int .i64 t.depth)).setCell ⟨s, 1137 + m * 12 + 5, none⟩ (.int .i64 t.speed)).setCell ⟨s, 1137 + m * 12 + 6, none⟩ (.int .i64 t.mast)).setCell ⟨s, 1137 + m * 12 + 7, none⟩ (.int .i64 t.noise)).setCell ⟨s, 1137 + m * 12 + 8, none⟩ (.bool t.afloat)).setCell ⟨s, 1137 + m * 12 + 9, none⟩ (.bool t.radar)).setCell ⟨s, 1137 + m * 12 + 10, none⟩ (.bool t.sonar)).setCell ⟨s, 1137 + m * 12 + 11, none⟩ (.bool t.ping)).drew.cell? ⟨q, 3, none⟩ = some (.int .i64 t.y) ∧ ((((((((((((wa.setCell ⟨s, 1137 + m * 12, none⟩ (.int .i64 t.id)).setCell ⟨s, 1137 + m * 12 + 1, none⟩ (.int .i64 t.team)).setCell ⟨s, 1137 + m * 12 + 2, none⟩ (.int .i64 t.x)).setCell ⟨s, 1137 + m * 12 + 3, none⟩ (.int .i64 t.y)).setCell ⟨s, 1137 + m * 12 + 4, none⟩ (.int .i64 t.depth)).setCell ⟨s, 1137 + m * 12 + 5, none⟩ (.int .i64 t.speed)).setCell ⟨s, 1137 + m * 12 + 6, none⟩ (.int .i64 t.mast)).setCell ⟨s, 1137 + m * 12 + 7, none⟩ (.int .i64 t.noise)).setCell ⟨s, 1137 + m * 12 + 8, none⟩ (.bool t.afloat)).setCell ⟨s, 1137 + m * 12 + 9, none⟩ (.bool t.radar)).setCell ⟨s, 1137 + m * 12 + 10, none⟩ (.bool t.sonar)).setCell ⟨s, 1137 + m * 12 + 11, none⟩ (.bool t.ping)).drew.cell? ⟨q, 4, none⟩ = some (.int .i64 t.depth) ∧ ((((((((((((wa.setCell ⟨s, 1137 + m * 12, none⟩ (.int .i64 t.id)).setCell ⟨s, 1137 + m * 12 + 1, none⟩ (.int .i64 t.team)).setCell ⟨s, 1137 + m * 12 + 2, none⟩ (.int .i64 t.x)).setCell ⟨s, 1137 + m * 12 + 3, none⟩ (.int .i64 t.y)).setCell ⟨s, 1137 + m * 12 + 4, none⟩ (.int .i64 t.depth)).setCell ⟨s, 1137 + m * 12 + 5, none⟩ (.int .i64 t.speed)).setCell ⟨s, 1137 + m * 12 + 6, none⟩ (.int .i64 t.mast)).setCell ⟨s, 1137 + m * 12 + 7, none⟩ (.int .i64 t.noise)).setCell ⟨s, 1137 + m * 12 + 8, none⟩ (.bool t.afloat)).setCell ⟨s, 1137 + m * 12 + 9, none⟩ (.bool t.radar)).setCell ⟨s, 1137 + m * 12 + 10, none⟩ (.bool t.sonar)).setCell ⟨s, 1137 + m * 12 + 11, none⟩ (.bool t.ping)).drew.cell? ⟨q, 5, none⟩ = some (.int .i64 t.speed) ∧ ((((((((((((wa.setCell ⟨s, 1137 + m * 12, none⟩ (.int .i64 t.id)).setCell ⟨s, 1137 + m * 12 + 1, none⟩ (.int .i64 t.team)).setCell ⟨s, 1137 + m * 12 + 2, none⟩ (.int .i64 t.x)).setCell ⟨s, 1137 + m * 12 + 3, none⟩ (.int .i64 t.y)).setCell ⟨s, 1137 + m * 12 + 4, none⟩ (.int .i64 t.depth)).setCell ⟨s, 1137 + m * 12 + 5, none⟩ (.int .i64 t.speed)).setCell ⟨s, 1137 + m * 12 + 6, none⟩ (.int .i64 t.mast)).setCell ⟨s, 1137 + m * 12 + 7, none⟩ (.int .i64 t.noise)).setCell ⟨s, 1137 + m * 12 + 8, none⟩ (.bool t.afloat)).setCell ⟨s, 1137 + m * 12 + 9, none⟩ (.bool t.radar)).setCell ⟨s, 1137 + m * 12 + 10, none⟩ (.bool t.sonar)).setCell ⟨s, 1137 + m * 12 + 11, none⟩ (.bool t.ping)).drew.cell? ⟨q, 6, none⟩ = some (.int .i64 t.mast) ∧ ((((((((((((wa.setCell ⟨s, 1137 + m * 12, none⟩ (.int .i64 t.id)).setCell ⟨s, 1137 + m * 12 + 1, none⟩ (.int .i64 t.team)).setCell ⟨s, 1137 + m * 12 + 2, none⟩ (.int .i64 t.x)).setCell ⟨s, 1137 + m * 12 + 3, none⟩ (.int .i64 t.y)).setCell ⟨s, 1137 + m * 12 + 4, none⟩ (.int .i64 t.depth)).setCell ⟨s, 1137 + m * 12 + 5, none⟩ (.int .i64 t.speed)).setCell ⟨s, 1137 + m * 12 + 6, none⟩ (.int .i64 t.mast)).setCell ⟨s, 1137 + m * 12 + 7, none⟩ (.int .i64 t.noise)).setCell ⟨s, 1137 + m * 12 + 8, none⟩ (.bool t.afloat)).setCell ⟨s, 1137 + m * 12 + 9, none⟩ (.bool t.radar)).setCell ⟨s, 1137 + m * 12 + 10, none⟩ (.bool t.sonar)).setCell ⟨s, 1137 + m * 12 + 11, none⟩ (.bool t.ping)).drew.cell? ⟨q, 7, none⟩ = some (.int .i64 t.noise) ∧ ((((((((((((wa.setCell ⟨s, 1137 + m * 12, none⟩ (.int .i64 t.id)).setCell ⟨s, 1137 + m * 12 + 1, none⟩ (.int .i64 t.team)).setCell ⟨s, 1137 + m * 12 + 2, none⟩ (.int .i64 t.x)).setCell ⟨s, 1137 + m * 12 + 3, none⟩ (.int .i64 t.y)).setCell ⟨s, 1137 + m * 12 + 4, none⟩ (.int .i64 t.depth)).setCell ⟨s, 1137 + m * 12 + 5, none⟩ (.int .i64 t.speed)).setCell ⟨s, 1137 + m * 12 + 6, none⟩ (.int .i64 t.mast)).setCell ⟨s, 1137 + m * 12 + 7, none⟩ (.int .i64 t.noise)).setCell ⟨s, 1137 + m * 12 + 8, none⟩ (.bool t.afloat)).setCell ⟨s, 1137 + m * 12 + 9, none⟩ (.bool t.radar)).setCell ⟨s, 1137 + m * 12 + 10, none⟩ (.bool t.sonar)).setCell ⟨s, 1137 + m * 12 + 11, none⟩ (.bool t.ping)).drew.cell? ⟨q, 8, none⟩ = some (.bool t.afloat) ∧ ((((((((((((wa.setCell ⟨s, 1137 + m * 12, none⟩ (.int .i64 t.id)).setCell ⟨s, 1137 + m * 12 + 1, none⟩ (.int .i64 t.team)).setCell ⟨s, 1137 + m * 12 + 2, none⟩ (.int .i64 t.x)).setCell ⟨s, 1137 + m * 12 + 3, none⟩ (.int .i64 t.y)).setCell ⟨s, 1137 + m * 12 + 4, none⟩ (.int .i64 t.depth)).setCell ⟨s, 1137 + m * 12 + 5, none⟩ (.int .i64 t.speed)).setCell ⟨s, 1137 + m * 12 + 6, none⟩ (.int .i64 t.mast)).setCell ⟨s, 1137 + m * 12 + 7, none⟩ (.int .i64 t.noise)).setCell ⟨s, 1137 + m * 12 + 8, none⟩ (.bool t.afloat)).setCell ⟨s, 1137 + m * 12 + 9, none⟩ (.bool t.radar)).setCell ⟨s, 1137 + m * 12 + 10, none⟩ (.bool t.sonar)).setCell ⟨s, 1137 + m * 12 + 11, none⟩ (.bool t.ping)).drew.cell? ⟨q, 9, none⟩ = some (.bool t.radar) ∧ ((((((((((((wa.setCell ⟨s, 1137 + m * 12, none⟩ (.int .i64 t.id)).setCell ⟨s, 1137 + m * 12 + 1, none⟩ (.int .i64 t.team)).setCell ⟨s, 1137 + m * 12 + 2, none⟩ (.int .i64 t.x)).setCell ⟨s, 1137 + m * 12 + 3, none⟩ (.int .i64 t.y)).setCell ⟨s, 1137 + m * 12 + 4, none⟩ (.int .i64 t.depth)).setCell ⟨s, 1137 + m * 12 + 5, none⟩ (.int .i64 t.speed)).setCell ⟨s, 1137 + m * 12 + 6, none⟩ (.int .i64 t.mast)).setCell ⟨s, 1137 + m * 12 + 7, none⟩ (.int .i64 t.noise)).setCell ⟨s, 1137 + m * 12 + 8, none⟩ (.bool t.afloat)).setCell ⟨s, 1137 + m * 12 + 9, none⟩ (.bool t.radar)).setCell ⟨s, 1137 + m * 12 + 10, none⟩ (.bool t.sonar)).setCell ⟨s, 1137 + m * 12 + 11, none⟩ (.bool t.ping)).drew.cell? ⟨q, 10, none⟩ = some (.bool t.sonar) ∧ ((((((((((((wa.setCell ⟨s, 1137 + m * 12, none⟩ (.int .i64 t.id)).setCell ⟨s, 1137 + m * 12 + 1, none⟩ (.int .i64 t.team)).setCell ⟨s, 1137 + m * 12 + 2, none⟩ (.int .i64 t.x)).setCell ⟨s, 1137 + m * 12 + 3, none⟩ (.int .i64 t.y)).setCell ⟨s, 1137 + m * 12 + 4, none⟩ (.int .i64 t.depth)).setCell ⟨s, 1137 + m * 12 + 5, none⟩ (.int .i64 t.speed)).setCell ⟨s, 1137 + m * 12 + 6, none⟩ (.int .i64 t.mast)).setCell ⟨s, 1137 + m * 12 + 7, none⟩ (.int .i64 t.noise)).setCell ⟨s, 1137 + m * 12 + 8, none⟩ (.bool t.afloat)).setCell ⟨s, 1137 + m * 12 + 9, none⟩ (.bool t.radar)).setCell ⟨s, 1137 + m * 12 + 10, none⟩ (.bool t.sonar)).setCell ⟨s, 1137 + m * 12 + 11, none⟩ (.bool t.ping)).drew.cell? ⟨q, 11, none⟩ = some (.bool t.ping)) := zS4
        have zSd : wa.drew.cell? ⟨s, 1713, none⟩ = some (.int .i64 m) ∧ wa.drew.cell? ⟨q, 0, none⟩ = some (.int .i64 t.id) ∧ wa.drew.cell? ⟨q, 1, none⟩ = some (.int .i64 t.team) ∧ wa.drew.cell? ⟨q, 2, none⟩ = some (.int .i64 t.x) ∧ wa.drew.cell? ⟨q, 3, none⟩ = some (.int .i64 t.y) ∧ wa.drew.cell? ⟨q, 4, none⟩ = some (.int .i64 t.depth) ∧ wa.drew.cell? ⟨q, 5, none⟩ = some (.int .i64 t.speed) ∧ wa.drew.cell? ⟨q, 6, none⟩ = some (.int .i64 t.mast) ∧ wa.drew.cell? ⟨q, 7, none⟩ = some (.int .i64 t.noise) ∧ wa.drew.cell? ⟨q, 8, none⟩ = some (.bool t.afloat) ∧ wa.drew.cell? ⟨q, 9, none⟩ = some (.bool t.radar) ∧ wa.drew.cell? ⟨q, 10, none⟩ = some (.bool t.sonar) ∧ wa.drew.cell? ⟨q, 11, none⟩ = some (.bool t.ping) := zS
        clear z34 zS4 zS z3
        go_region_held3 (fun w' => w'.cell? ⟨s, 1713, none⟩ = some (.int .i64 m) ∧ w'.cell? ⟨q, 0, none⟩ = some (.int .i64 t.id) ∧ w'.cell? ⟨q, 1, none⟩ = some (.int .i64 t.team) ∧ w'.cell? ⟨q, 2, none⟩ = some (.int .i64 t.x) ∧ w'.cell? ⟨q, 3, none⟩ = some (.int .i64 t.y) ∧ w'.cell? ⟨q, 4, none⟩ = some (.int .i64 t.depth) ∧ w'.cell? ⟨q, 5, none⟩ = some (.int .i64 t.speed) ∧ w'.cell? ⟨q, 6, none⟩ = some (.int .i64 t.mast) ∧ w'.cell? ⟨q, 7, none⟩ = some (.int .i64 t.noise) ∧ w'.cell? ⟨q, 8, none⟩ = some (.bool t.afloat) ∧ w'.cell? ⟨q, 9, none⟩ = some (.bool t.radar) ∧ w'.cell? ⟨q, 10, none⟩ = some (.bool t.sonar) ∧ w'.cell? ⟨q, 11, none⟩ = some (.bool t.ping)) (first | (with_reducible exact zSd) | (with_reducible exact ZS4.out)) (fail)
        clear zSd ZS4 d0 f0 d1 f1 d2 f2 d3 f3 d4 f4 d5 f5 d6 f6 d7 f7 d8 f8 d9 f9 d10 f10 d11 f11
        have HC5 : Hid (CB ((((((((((((wa.setCell ⟨s, 1137 + m * 12, none⟩ (.int .i64 t.id)).setCell ⟨s, 1137 + m * 12 + 1, none⟩ (.int .i64 t.team)).setCell ⟨s, 1137 + m * 12 + 2, none⟩ (.int .i64 t.x)).setCell ⟨s, 1137 + m * 12 + 3, none⟩ (.int .i64 t.y)).setCell ⟨s, 1137 + m * 12 + 4, none⟩ (.int .i64 t.depth)).setCell ⟨s, 1137 + m * 12 + 5, none⟩ (.int .i64 t.speed)).setCell ⟨s, 1137 + m * 12 + 6, none⟩ (.int .i64 t.mast)).setCell ⟨s, 1137 + m * 12 + 7, none⟩ (.int .i64 t.noise)).setCell ⟨s, 1137 + m * 12 + 8, none⟩ (.bool t.afloat)).setCell ⟨s, 1137 + m * 12 + 9, none⟩ (.bool t.radar)).setCell ⟨s, 1137 + m * 12 + 10, none⟩ (.bool t.sonar)).setCell ⟨s, 1137 + m * 12 + 11, none⟩ (.bool t.ping)).drew s (updCs C2 (1137 + m * 12) t.vals)) := HC4
        have HX5 : Hid (BX ((((((((((((wa.setCell ⟨s, 1137 + m * 12, none⟩ (.int .i64 t.id)).setCell ⟨s, 1137 + m * 12 + 1, none⟩ (.int .i64 t.team)).setCell ⟨s, 1137 + m * 12 + 2, none⟩ (.int .i64 t.x)).setCell ⟨s, 1137 + m * 12 + 3, none⟩ (.int .i64 t.y)).setCell ⟨s, 1137 + m * 12 + 4, none⟩ (.int .i64 t.depth)).setCell ⟨s, 1137 + m * 12 + 5, none⟩ (.int .i64 t.speed)).setCell ⟨s, 1137 + m * 12 + 6, none⟩ (.int .i64 t.mast)).setCell ⟨s, 1137 + m * 12 + 7, none⟩ (.int .i64 t.noise)).setCell ⟨s, 1137 + m * 12 + 8, none⟩ (.bool t.afloat)).setCell ⟨s, 1137 + m * 12 + 9, none⟩ (.bool t.radar)).setCell ⟨s, 1137 + m * 12 + 10, none⟩ (.bool t.sonar)).setCell ⟨s, 1137 + m * 12 + 11, none⟩ (.bool t.ping)).drew q t) := HX4
        have HE5 : Hid (Ex (fun k => k = s) w ((((((((((((wa.setCell ⟨s, 1137 + m * 12, none⟩ (.int .i64 t.id)).setCell ⟨s, 1137 + m * 12 + 1, none⟩ (.int .i64 t.team)).setCell ⟨s, 1137 + m * 12 + 2, none⟩ (.int .i64 t.x)).setCell ⟨s, 1137 + m * 12 + 3, none⟩ (.int .i64 t.y)).setCell ⟨s, 1137 + m * 12 + 4, none⟩ (.int .i64 t.depth)).setCell ⟨s, 1137 + m * 12 + 5, none⟩ (.int .i64 t.speed)).setCell ⟨s, 1137 + m * 12 + 6, none⟩ (.int .i64 t.mast)).setCell ⟨s, 1137 + m * 12 + 7, none⟩ (.int .i64 t.noise)).setCell ⟨s, 1137 + m * 12 + 8, none⟩ (.bool t.afloat)).setCell ⟨s, 1137 + m * 12 + 9, none⟩ (.bool t.radar)).setCell ⟨s, 1137 + m * 12 + 10, none⟩ (.bool t.sonar)).setCell ⟨s, 1137 + m * 12 + 11, none⟩ (.bool t.ping)).drew) := HE4
        clear HC4 HX4 HE4 HC3 HX HE3
        generalize ((((((((((((wa.setCell ⟨s, 1137 + m * 12, none⟩ (.int .i64 t.id)).setCell ⟨s, 1137 + m * 12 + 1, none⟩ (.int .i64 t.team)).setCell ⟨s, 1137 + m * 12 + 2, none⟩ (.int .i64 t.x)).setCell ⟨s, 1137 + m * 12 + 3, none⟩ (.int .i64 t.y)).setCell ⟨s, 1137 + m * 12 + 4, none⟩ (.int .i64 t.depth)).setCell ⟨s, 1137 + m * 12 + 5, none⟩ (.int .i64 t.speed)).setCell ⟨s, 1137 + m * 12 + 6, none⟩ (.int .i64 t.mast)).setCell ⟨s, 1137 + m * 12 + 7, none⟩ (.int .i64 t.noise)).setCell ⟨s, 1137 + m * 12 + 8, none⟩ (.bool t.afloat)).setCell ⟨s, 1137 + m * 12 + 9, none⟩ (.bool t.radar)).setCell ⟨s, 1137 + m * 12 + 10, none⟩ (.bool t.sonar)).setCell ⟨s, 1137 + m * 12 + 11, none⟩ (.bool t.ping)).drew = wb at *
        rename_i hh0
        clear hh0
        obtain ⟨C3, hC3⟩ : ∃ C3, updCs C2 (1137 + m * 12) t.vals = C3 := ⟨_, rfl⟩
        rw [hC3] at HC5
        have HC3 := hide hC3
        clear hC3
        have hcl := cel_lt HT.out.2
        have hz : C3 (cel t) = .int .i64 (prv (fcel A) A.length (cel t)) := by rw [← HC3.out, updCs_lo _ _ _ _ (by omega)]; exact HL.out.gh.hd _ hcl
        have hct3 : C3 1713 = .int .i64 m := by rw [← HC3.out, updCs_hi _ _ _ _ (by rw [Shp.vals_len]; omega), HL.out.ct, HMm.out]
        have HZ := hide hz
        have HCT3 := hide hct3
        clear hz hct3
        have z3 := HC5.out.c 1713 (by omega)
        rw [HCT3.out] at z3
        have x2 := HX5.out.c2
        have x3 := HX5.out.c3
        go_upto_region 12 with fail
        go_region_held3 (fun w' => w'.cell? ⟨s, 1713, none⟩ = some (.int .i64 m) ∧ w'.cell? ⟨q, 2, none⟩ = some (.int .i64 t.x) ∧ w'.cell? ⟨q, 3, none⟩ = some (.int .i64 t.y)) (simp [*, go_sem])
          (first | (go_at_call 49; refine (insert_any _ s C3 HC5.out.drew t HT.out.2 m hm48 _ HZ.out).mono ?_; rintro e w6 ⟨rfl, hc6, ex6⟩; replace ex6 := Ex.of_drew ex6; have HC6 := hide hc6; have HX6 := hide (HX5.out.keep ex6 hqs); have HE6 := hide (HE5.out.trans ex6); have z36 := hc6.c 1713 (by omega); rw [updC_other _ _ (by omega), updC_other _ _ (by omega), HCT3.out] at z36; have x26 := HX6.out.c2; have x36 := HX6.out.c3; clear hc6 ex6))
        clear z3 x2 x3 x26 x36 HC5 HX5 HE5
        rename_i hh0
        clear hh0
        have f36 := HC6.out.fr 1713
        have HC7 := hide (HC6.out.set (j := 1713) (by omega) (.int .i64 (m + 1 : Nat)))
        have HX7 := hide (HX6.out.keep ((Ex.refl (fun k => k = s) w6).set (p := s) (j := 1713) rfl (.int .i64 (m + 1 : Nat))) hqs)
        have HE7 := hide (HE6.out.set (p := s) (j := 1713) rfl (.int .i64 (m + 1 : Nat)))
        have HL7 := hide (HL.out.push HT.out.2 (by rw [HMm.out]; exact hm48) rfl rfl)
        rw [HMm.out, HC3.out, HZ.out, HMm.out] at HL7
        rw [HMm.out] at HC7
        have e7 : ((m + 1 : Nat) : Int) = (m : Int) + 1 := by omega
        rw [e7] at HC7 HX7 HE7 HL7
        clear e7
        clear HC6 HX6 HE6 HZ HCT3 HL HC3
        obtain ⟨A', hA'⟩ : ∃ A', A ++ [t] = A' := ⟨_, rfl⟩
        rw [hA'] at HL7
        go_upto_region 14 with fail
        generalize w6.setCell ⟨s, 1713, none⟩ (.int .i64 ((m : Int) + 1)) = wc at *
        obtain ⟨C7, hC7⟩ : ∃ C7, C7 = updC (updC (updC C3 (1089 + m) (.int .i64 (prv (fcel A) m (cel t)))) (cel t) (.int .i64 m)) 1713 (.int .i64 ((m : Int) + 1)) := ⟨_, rfl⟩
        rw [← hC7] at HC7 HL7
        clear hC7 z36 f36
        have z5 := HC7.out.c 1715 (by omega)
        rw [HL7.out.c4] at z5
        have f5 := HC7.out.fr 1715
        have zS := And.intro z5 (BX.conj HX7.out)
        have zSd : wc.drew.cell? ⟨s, 1715, none⟩ = some (.int .i64 ld) ∧ wc.drew.cell? ⟨q, 0, none⟩ = some (.int .i64 t.id) ∧ wc.drew.cell? ⟨q, 1, none⟩ = some (.int .i64 t.team) ∧ wc.drew.cell? ⟨q, 2, none⟩ = some (.int .i64 t.x) ∧ wc.drew.cell? ⟨q, 3, none⟩ = some (.int .i64 t.y) ∧ wc.drew.cell? ⟨q, 4, none⟩ = some (.int .i64 t.depth) ∧ wc.drew.cell? ⟨q, 5, none⟩ = some (.int .i64 t.speed) ∧ wc.drew.cell? ⟨q, 6, none⟩ = some (.int .i64 t.mast) ∧ wc.drew.cell? ⟨q, 7, none⟩ = some (.int .i64 t.noise) ∧ wc.drew.cell? ⟨q, 8, none⟩ = some (.bool t.afloat) ∧ wc.drew.cell? ⟨q, 9, none⟩ = some (.bool t.radar) ∧ wc.drew.cell? ⟨q, 10, none⟩ = some (.bool t.sonar) ∧ wc.drew.cell? ⟨q, 11, none⟩ = some (.bool t.ping) := zS
        have hld := HL7.out.l0
        have htl := HL7.out.t0
        have hsr : 0 ≤ srcP t ∧ srcP t ≤ 240 := by have := HT.out.2.speed; have := HT.out.2.noise; unfold srcP; omega
        go_region_held3 (fun w' => w'.cell? ⟨s, 1715, none⟩ = some (.int .i64 ld) ∧ w'.cell? ⟨q, 0, none⟩ = some (.int .i64 t.id) ∧ w'.cell? ⟨q, 1, none⟩ = some (.int .i64 t.team) ∧ w'.cell? ⟨q, 2, none⟩ = some (.int .i64 t.x) ∧ w'.cell? ⟨q, 3, none⟩ = some (.int .i64 t.y) ∧ w'.cell? ⟨q, 4, none⟩ = some (.int .i64 t.depth) ∧ w'.cell? ⟨q, 5, none⟩ = some (.int .i64 t.speed) ∧ w'.cell? ⟨q, 6, none⟩ = some (.int .i64 t.mast) ∧ w'.cell? ⟨q, 7, none⟩ = some (.int .i64 t.noise) ∧ w'.cell? ⟨q, 8, none⟩ = some (.bool t.afloat) ∧ w'.cell? ⟨q, 9, none⟩ = some (.bool t.radar) ∧ w'.cell? ⟨q, 10, none⟩ = some (.bool t.sonar) ∧ w'.cell? ⟨q, 11, none⟩ = some (.bool t.ping)) (first | (with_reducible exact zSd) | (with_reducible exact zS))
          (first | (go_at_call 50; refine (source_any _ t HT.out.2).mono ?_; rintro e w8 ⟨rfl, b8⟩; (try replace b8 := of_drew b8); have HC8 := hide (HC7.out.below b8); have HX8 := hide (HX7.out.below b8); have HE8 := hide (HE7.out.trans (Ex.of b8)); clear zS zSd; have z58 := HC8.out.c 1715 (by omega); rw [HL7.out.c4] at z58; have zS := And.intro z58 (BX.conj HX8.out); clear b8))
        clear zS z5 f5 z58 HC7 HX7 HE7
        rename_i hh0
        clear hh0
        obtain ⟨sr, hsrE⟩ : ∃ sr, srcP t = sr := ⟨_, rfl⟩
        rw [hsrE] at hsr ⊢
        have HSR := hide hsrE
        clear hsrE
        go_upto_if 85 with fail
        go_cut [85] (fun _ wx => ∃ (C9 : Nat → Value) (ld9 : Int), CB wx s C9 ∧ LC C9 A' v2 ld9 tl pg (A ++ [t]) A A ∧ BX wx q t ∧ Ex (fun k => k = s) w wx)
        case first =>
          by_cases hs1 : ld < sr
          · obtain ⟨x0, x1, x2, x3, x4, x5, x6, x7, x8, x9, x10, x11⟩ := HX8.out
            have HSS := hide hs1
            go_wp2_with fail
            clear hs1
            refine (source_any _ t HT.out.2).mono ?_
            rintro e w9 ⟨rfl, b9⟩
            have HC9 := hide (HC8.out.below b9)
            have HX9 := hide (HX8.out.below b9)
            have HE9 := hide (HE8.out.trans (Ex.of b9))
            rw [HSR.out]
            clear b9 x0 x1 x2 x3 x4 x5 x6 x7 x8 x9 x10 x11
            have z59 := HC9.out.c 1715 (by omega)
            have f59 := HC9.out.fr 1715
            have HC10 := hide (HC9.out.set (j := 1715) (by omega) (.int .i64 sr))
            have HX10 := hide (HX9.out.keep ((Ex.refl (fun k => k = s) w9).set (p := s) (j := 1715) rfl (.int .i64 sr)) hqs)
            have HE10 := hide (HE9.out.set (p := s) (j := 1715) rfl (.int .i64 sr))
            go_wp2
            go_meet
            exact ⟨_, sr, HC10.out, HL7.out.ld1 hsr (by have := HSS.out; omega) (by rw [HSR.out]; exact Int.le_refl _), HX10.out, HE10.out⟩
          · have HSS := hide hs1
            go_wp2
            go_meet
            exact ⟨_, ld, HC8.out, HL7.out.ld0 (by rw [HSR.out]; have := HSS.out; omega), HX8.out, HE8.out⟩
        obtain ⟨C9, ld9, hc9, hl9, hx9, hex9⟩ := hcut
        clear HC8 HX8 HE8 HL7
        have HC9 := hide hc9
        have HL9 := hide hl9
        have HX9 := hide hx9
        have HE9 := hide hex9
        clear hc9 hl9 hx9 hex9
        have z6 := HC9.out.c 1716 (by omega)
        rw [HL9.out.c5] at z6
        have f6 := HC9.out.fr 1716
        have x4 := HX9.out.c4
        have x6 := HX9.out.c6
        have hmt := HT.out.2.mast
        go_upto_region 16 with fail
        by_cases hd0 : t.depth = 0
        · have HD0 := hide hd0
          rw [hd0] at x4
          clear hd0
          by_cases hmm : tl < t.mast
          · have HMM := hide hmm
            go_quiet (fail)
            have HC11 := hide (HC9.out.drewN nq)
            have HX11 := hide (HX9.out.drewN nq)
            have HE11 := hide (HE9.out.drewN nq)
            clear z6 f6 x4 x6 HC9 HX9 HE9
            generalize hwd : World.drewN _ nq = wd at *
            clear hwd
            have z6 := HC11.out.c 1716 (by omega)
            have f6 := HC11.out.fr 1716
            have x6 := HX11.out.c6
            have HC12 := hide (HC11.out.set (j := 1716) (by omega) (.int .i64 t.mast))
            have HX12 := hide (HX11.out.keep ((Ex.refl (fun k => k = s) wd).set (p := s) (j := 1716) rfl (.int .i64 t.mast)) hqs)
            have HE12 := hide (HE11.out.set (p := s) (j := 1716) rfl (.int .i64 t.mast))
            have HL12 := hide (HL9.out.tl1 (t := t) (v := t.mast) hmt (by omega) (Int.le_refl _))
            clear HC11 HX11 HE11
            go_upto_region 18 with fail
            clear hmm z6 f6 x6
            generalize World.setCell wd ⟨s, 1716, none⟩ (.int .i64 t.mast) = we at *
            obtain ⟨x0, x1, x2, x3, x4, x5, x6, x7, x8, x9, x10, x11⟩ := HX12.out
            have f7 := HC12.out.fr 1717
            go_wp2_with fail
            refine (pings_any _ t).mono ?_
            rintro e wp ⟨rfl, bp⟩
            have HCp := hide (HC12.out.below bp)
            have HXp := hide (HX12.out.below bp)
            have HEp := hide (HE12.out.trans (Ex.of bp))
            clear bp x0 x1 x2 x3 x4 x5 x6 x7 x8 x9 x10 x11 f7
            cases hpin : pinP t
            · have HP := hide hpin
              clear hpin
              go_wp2
              go_roundw
              case rel =>
                refine ⟨i + 1, _, ld9, t.mast, pg, by omega, by simp, HCp.out, ?_, HEp.out⟩
                rw [HFN.out, HAF.out, if_pos rfl, hA']
                have := HL12.out.pg0 HP.out
                rw [hA'] at this
                exact this
              case measure => simp [intOf]; omega
            · have HP := hide hpin
              clear hpin
              have z7 := HCp.out.c 1717 (by omega)
              have f7 := HCp.out.fr 1717
              have HCq := hide (HCp.out.set (j := 1717) (by omega) (.bool true))
              have HEq := hide (HEp.out.set (p := s) (j := 1717) rfl (.bool true))
              go_wp2
              go_roundw
              case rel =>
                refine ⟨i + 1, _, ld9, t.mast, true, by omega, by simp, HCq.out, ?_, HEq.out⟩
                rw [HFN.out, HAF.out, if_pos rfl, hA']
                have := HL12.out.pg1 t
                rw [hA'] at this
                exact this
              case measure => simp [intOf]; omega
          · have HMM := hide hmm
            go_quiet (fail)
            have HC11 := hide (HC9.out.drewN nq)
            have HX11 := hide (HX9.out.drewN nq)
            have HE11 := hide (HE9.out.drewN nq)
            clear z6 f6 x4 x6 HC9 HX9 HE9
            generalize hwd : World.drewN _ nq = wd at *
            clear hwd
            have HL12 := hide (HL9.out.tl0 (t := t) (fun _ => by have := HMM.out; omega))
            go_upto_region 18 with fail
            clear hmm
            obtain ⟨x0, x1, x2, x3, x4, x5, x6, x7, x8, x9, x10, x11⟩ := HX11.out
            have f7 := HC11.out.fr 1717
            go_wp2_with fail
            refine (pings_any _ t).mono ?_
            rintro e wp ⟨rfl, bp⟩
            have HCp := hide (HC11.out.below bp)
            have HXp := hide (HX11.out.below bp)
            have HEp := hide (HE11.out.trans (Ex.of bp))
            clear bp x0 x1 x2 x3 x4 x5 x6 x7 x8 x9 x10 x11 f7
            cases hpin : pinP t
            · have HP := hide hpin
              clear hpin
              go_wp2
              go_roundw
              case rel =>
                refine ⟨i + 1, _, ld9, tl, pg, by omega, by simp, HCp.out, ?_, HEp.out⟩
                rw [HFN.out, HAF.out, if_pos rfl, hA']
                have := HL12.out.pg0 HP.out
                rw [hA'] at this
                exact this
              case measure => simp [intOf]; omega
            · have HP := hide hpin
              clear hpin
              have z7 := HCp.out.c 1717 (by omega)
              have f7 := HCp.out.fr 1717
              have HCq := hide (HCp.out.set (j := 1717) (by omega) (.bool true))
              have HEq := hide (HEp.out.set (p := s) (j := 1717) rfl (.bool true))
              go_wp2
              go_roundw
              case rel =>
                refine ⟨i + 1, _, ld9, tl, true, by omega, by simp, HCq.out, ?_, HEq.out⟩
                rw [HFN.out, HAF.out, if_pos rfl, hA']
                have := HL12.out.pg1 t
                rw [hA'] at this
                exact this
              case measure => simp [intOf]; omega
        · have HD0 := hide hd0
          have hd0b : (t.depth == 0) = false := by simp [hd0]
          go_quiet (fail)
          have HC11 := hide (HC9.out.drewN nq)
          have HX11 := hide (HX9.out.drewN nq)
          have HE11 := hide (HE9.out.drewN nq)
          clear z6 f6 x4 x6 HC9 HX9 HE9
          generalize hwd : World.drewN _ nq = wd at *
          clear hwd
          have HL12 := hide (HL9.out.tl0 (t := t) (fun e => absurd e HD0.out))
          go_upto_region 18 with fail
          clear hd0 hd0b
          obtain ⟨x0, x1, x2, x3, x4, x5, x6, x7, x8, x9, x10, x11⟩ := HX11.out
          have f7 := HC11.out.fr 1717
          go_wp2_with fail
          refine (pings_any _ t).mono ?_
          rintro e wp ⟨rfl, bp⟩
          have HCp := hide (HC11.out.below bp)
          have HXp := hide (HX11.out.below bp)
          have HEp := hide (HE11.out.trans (Ex.of bp))
          clear bp x0 x1 x2 x3 x4 x5 x6 x7 x8 x9 x10 x11 f7
          cases hpin : pinP t
          · have HP := hide hpin
            clear hpin
            go_wp2
            go_roundw
            case rel =>
              refine ⟨i + 1, _, ld9, tl, pg, by omega, by simp, HCp.out, ?_, HEp.out⟩
              rw [HFN.out, HAF.out, if_pos rfl, hA']
              have := HL12.out.pg0 HP.out
              rw [hA'] at this
              exact this
            case measure => simp [intOf]; omega
          · have HP := hide hpin
            clear hpin
            have z7 := HCp.out.c 1717 (by omega)
            have f7 := HCp.out.fr 1717
            have HCq := hide (HCp.out.set (j := 1717) (by omega) (.bool true))
            have HEq := hide (HEp.out.set (p := s) (j := 1717) rfl (.bool true))
            go_wp2
            go_roundw
            case rel =>
              refine ⟨i + 1, _, ld9, tl, true, by omega, by simp, HCq.out, ?_, HEq.out⟩
              rw [HFN.out, HAF.out, if_pos rfl, hA']
              have := HL12.out.pg1 t
              rw [hA'] at this
              exact this
            case measure => simp [intOf]; omega
    · obtain rfl : i = n := by omega
      have HL2 : Hid (LC C2 (L.filter Shp.afloat) v2 ld tl pg (L.filter Shp.afloat) (L.filter Shp.afloat) (L.filter Shp.afloat)) := by
        have := HL.out
        rw [← HN.out, List.take_length] at this
        exact this
      clear HL
      have REL : Hid (∀ (wx : World) (C' : Nat → Value), CB wx s C' → (∀ x, x < 1718 → C' x = C2 x) → BZ C' 768 → Ex (fun k => k = s) w wx → LodPost w s v2 L M (.returned (.tuple #[])) wx) := fun wx C' hc he hz hex =>
        ⟨rfl, ld, tl, pg, (HL2.out.hi he).scn hz hc ⟨(HW.out.keep hex HF.out).r2, HO.out.ml, HO.out.mo⟩ (fun e => HF.out s (.inr (.inr e)) rfl) (fun t ht => HO.out.ok t (List.mem_filter.1 ht).1), hex⟩
      clear HL2 HW1
      go_wp2
      clear y0
      go_loopw [6] (fun sT wx => ∃ (T : Nat) (C' : Nat → Value), T ≤ 4 ∧ sT = .int .i64 T ∧ CB wx s C' ∧ (∀ x, x < 1718 → C' x = C2 x) ∧ BZ C' (T * 192) ∧ Ex (fun k => k = s) w wx) (fun sT _ => 4 - (intOf sT).toNat)
      case atStart => exact ⟨0, C2, by omega, rfl, HC.out, fun _ _ => rfl, fun x hx => by omega, HE.out⟩
      case round =>
        clear HC HE
        obtain ⟨T, C3, hT, rfl, hc, he, hz, hex⟩ := hrel
        have HC := hide hc
        have HH := hide he
        have HZ := hide hz
        have HE := hide hex
        clear hc he hz hex
        by_cases hT4 : T < 4
        · have hT4i : (T : Int) < 4 := by omega
          go_wp2
          go_loopw [7] (fun sI wx => ∃ (I : Nat) (C' : Nat → Value), I ≤ 48 ∧ sI = .int .i64 I ∧ CB wx s C' ∧ (∀ x, x < 1718 → C' x = C2 x) ∧ BZ C' (T * 192 + I * 4) ∧ Ex (fun k => k = s) w wx) (fun sI _ => 48 - (intOf sI).toNat)
          case atStart => exact ⟨0, C3, by omega, rfl, HC.out, HH.out, HZ.out, HE.out⟩
          case round =>
            clear HC HE HH HZ C3
            obtain ⟨I, C3, hI, rfl, hc, he, hz, hex⟩ := hrel
            have HC := hide hc
            have HH := hide he
            have HZ := hide hz
            have HE := hide hex
            clear hc he hz hex
            by_cases hI48 : I < 48
            · have hI48i : (I : Int) < 48 := by omega
              go_wp2
              go_loopw [8] (fun sK wx => ∃ (K : Nat) (C' : Nat → Value), K ≤ 4 ∧ sK = .int .i64 K ∧ CB wx s C' ∧ (∀ x, x < 1718 → C' x = C2 x) ∧ BZ C' (T * 192 + I * 4 + K) ∧ Ex (fun k => k = s) w wx) (fun sK _ => 4 - (intOf sK).toNat)
              case atStart => exact ⟨0, C3, by omega, rfl, HC.out, HH.out, HZ.out, HE.out⟩
              case round =>
                clear HC HE HH HZ C3
                obtain ⟨K, C3, hK, rfl, hc, he, hz, hex⟩ := hrel
                have HC := hide hc
                have HH := hide he
                have HZ := hide hz
                have HE := hide hex
                clear hc he hz hex
                by_cases hK4 : K < 4
                · have hK4i : (K : Int) < 4 := by omega
                  have d0 := HC.out.c (1718 + T * 768 + I * 16 + K * 4) (by omega)
                  have d1 := HC.out.c (1718 + T * 768 + I * 16 + K * 4 + 1) (by omega)
                  have d2 := HC.out.c (1718 + T * 768 + I * 16 + K * 4 + 2) (by omega)
                  have d3 := HC.out.c (1718 + T * 768 + I * 16 + K * 4 + 3) (by omega)
                  have f0 := HC.out.fr (1718 + T * 768 + I * 16 + K * 4)
                  have f1 := HC.out.fr (1718 + T * 768 + I * 16 + K * 4 + 1)
                  have f2 := HC.out.fr (1718 + T * 768 + I * 16 + K * 4 + 2)
                  have f3 := HC.out.fr (1718 + T * 768 + I * 16 + K * 4 + 3)
                  have HC2 := hide ((((HC.out.set (j := 1718 + T * 768 + I * 16 + K * 4) (by omega) (.bool false)).set (j := 1718 + T * 768 + I * 16 + K * 4 + 1) (by omega) (.int .i64 0)).set (j := 1718 + T * 768 + I * 16 + K * 4 + 2) (by omega) (.int .i64 0)).set (j := 1718 + T * 768 + I * 16 + K * 4 + 3) (by omega) (.int .i64 0))
                  have HE2 := hide ((((HE.out.set (p := s) (j := 1718 + T * 768 + I * 16 + K * 4) rfl (.bool false)).set (p := s) (j := 1718 + T * 768 + I * 16 + K * 4 + 1) rfl (.int .i64 0)).set (p := s) (j := 1718 + T * 768 + I * 16 + K * 4 + 2) rfl (.int .i64 0)).set (p := s) (j := 1718 + T * 768 + I * 16 + K * 4 + 3) rfl (.int .i64 0))
                  go_wp2
                  go_roundw
                  case rel =>
                    refine ⟨K + 1, _, by omega, by simp, HC2.out, fun x hx => ?_, HZ.out.next (by omega), HE2.out⟩
                    rw [updC_other _ _ (by omega), updC_other _ _ (by omega), updC_other _ _ (by omega), updC_other _ _ (by omega)]
                    exact HH.out x hx
                  case measure => simp [intOf]; omega
                · have hK4i : ¬ (K : Int) < 4 := by omega
                  obtain rfl : K = 4 := by omega
                  go_wp2
                  go_roundw
                  case rel => exact ⟨I + 1, C3, by omega, by simp, HC.out, HH.out, by have := HZ.out; rw [show T * 192 + (I + 1) * 4 = T * 192 + I * 4 + 4 by omega]; exact this, HE.out⟩
                  case measure => simp [intOf]; omega
            · obtain rfl : I = 48 := by omega
              go_wp2
              go_roundw
              case rel => exact ⟨T + 1, C3, by omega, by simp, HC.out, HH.out, by have := HZ.out; rw [show (T + 1) * 192 = T * 192 + 48 * 4 by omega]; exact this, HE.out⟩
              case measure => simp [intOf]; omega
        · obtain rfl : T = 4 := by omega
          go_wp2
          go_end0
          exact REL.out _ C3 HC.out HH.out HZ.out HE.out
end Go.Proofs.Qxb6500776a
