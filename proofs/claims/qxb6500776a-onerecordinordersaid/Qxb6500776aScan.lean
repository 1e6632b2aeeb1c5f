import Derived.Test.Qxb6500776aRep
namespace Go.Proofs.Qxb6500776a
open Go.RowKit

/-- All notes of the first i observers. -/
def DI (A : List Shp) (M : List Smk) (i : Nat) : Shp → Shp → Nat → Prop := fun o t k => (∃ j, j < i ∧ A[j]? = some o) ∧ k < 4 ∧ seeP M o t k = true ∧ t ∈ A ∧ t.team ≠ o.team
/-- All notes. -/
def DF (A : List Shp) (M : List Smk) : Shp → Shp → Nat → Prop := fun o t k => o ∈ A ∧ k < 4 ∧ seeP M o t k = true ∧ t ∈ A ∧ t.team ≠ o.team
theorem DI_succ {A : List Shp} {M : List Smk} {i : Nat} {o : Shp} (ho : A[i]? = some o) (o' t' : Shp) (k' : Nat) : DI A M (i + 1) o' t' k' ↔ DA (DA (DA (DI A M i) A M o (fun k => k = 0)) A M o (fun k => k = 1)) A M o (fun k => k = 2 ∨ k = 3) o' t' k' := by
  unfold DA DI
  constructor
  · rintro ⟨⟨j, hj, hA⟩, hk, h1, h2, h3⟩
    rcases (by omega : j < i ∨ j = i) with z | rfl
    · exact .inl (.inl (.inl ⟨⟨j, z, hA⟩, hk, h1, h2, h3⟩))
    · rw [ho] at hA
      cases hA
      rcases (by omega : k' = 0 ∨ k' = 1 ∨ (k' = 2 ∨ k' = 3)) with z | z | z
      · exact .inl (.inl (.inr ⟨rfl, z, h1, h2, h3⟩))
      · exact .inl (.inr ⟨rfl, z, h1, h2, h3⟩)
      · exact .inr ⟨rfl, z, h1, h2, h3⟩
  · rintro (((⟨⟨j, hj, hA⟩, hk, h1, h2, h3⟩ | ⟨rfl, z, h1, h2, h3⟩) | ⟨rfl, z, h1, h2, h3⟩) | ⟨rfl, z, h1, h2, h3⟩)
    · exact ⟨⟨j, by omega, hA⟩, hk, h1, h2, h3⟩
    · exact ⟨⟨i, by omega, ho⟩, by omega, h1, h2, h3⟩
    · exact ⟨⟨i, by omega, ho⟩, by omega, h1, h2, h3⟩
    · exact ⟨⟨i, by omega, ho⟩, by omega, h1, h2, h3⟩
theorem DI_all {A : List Shp} {M : List Smk} (o t : Shp) (k : Nat) : DF A M o t k ↔ DI A M A.length o t k := by
  unfold DF DI
  constructor
  · rintro ⟨h, r⟩
    obtain ⟨j, hj, rfl⟩ := List.getElem_of_mem h
    exact ⟨⟨j, hj, List.getElem?_eq_getElem hj⟩, r⟩
  · rintro ⟨⟨j, _, h⟩, r⟩
    exact ⟨List.mem_of_getElem? h, r⟩
theorem DI_zero {A : List Shp} {M : List Smk} (o t : Shp) (k : Nat) : DI A M 0 o t k ↔ False := by
  unfold DI
  constructor
  · rintro ⟨⟨j, hj, _⟩, _⟩; omega
  · exact False.elim
def ScPost (w : World) (s : Nat) (L : List Shp) (M : List Smk) (e : Ending) (w' : World) : Prop :=
  ∃ v B, e = .returned v ∧ DRow w' w.heap.size v (repN B 768) ∧ BRD w' s B ∧ Bd (DF (L.filter Shp.afloat) M) B ∧ Ex (fun k => k = s) w w'
theorem SCN.ct {w : World} {s : Nat} {A : List Shp} {v2 : Value} {ld tl : Int} {pg : Bool} {M : List Smk} {B : Brd} (h : SCN w s A v2 ld tl pg M B) : w.cell? ⟨s, 1713, none⟩ = some (.int .i64 A.length) ∧ A.length ≤ 48 := by
  obtain ⟨C, h⟩ := h
  rw [h.cb.c _ (by omega), h.ct]
  exact ⟨rfl, h.n⟩
theorem DRow.mono {w : World} {b b' : Nat} {v : Value} {Ds : List Det} (h : DRow w b v Ds) (hb : b' ≤ b) : DRow w b' v Ds := by
  obtain ⟨h1, h2⟩ := h
  refine ⟨h1, ?_⟩
  rcases h2 with h2 | ⟨g, cap, cur, e, hg, r⟩
  · exact .inl h2
  · exact .inr ⟨g, cap, cur, e, Nat.le_trans hb hg, r⟩
set_option maxRecDepth 100000 in
set_option maxHeartbeats 2000000 in
theorem scan_any (w : World) (s : Nat) (C : Nat → Value) (p : Nat) (v1 v2 : Value) (L : List Shp) (M : List Smk) (h : CB w s C) (hw : WD w p v1 v2 L M) (ho : WOk L M) (hs : ¬ Foot p v1 v2 s) :
    Calls Try.prog 15 #[.pointer (some ⟨s, 0, none⟩), .pointer (some ⟨p, 0, none⟩)] w (ScPost w s L M) := by
  have c1 := hide (load_any w s C p v1 v2 L M h hw ho hs)
  clear h hw ho hs
  go_enter Try.func15, Try.ntmps15
  go_wp2_with fail
  refine c1.out.mono ?_
  rintro e w1 ⟨rfl, ld, tl, pg, hsc, hex⟩
  obtain ⟨A, hA⟩ : ∃ A, L.filter Shp.afloat = A := ⟨_, rfl⟩
  rw [hA] at hsc
  have HAA := hide hA
  have HS := hide hsc
  have HE := hide hex
  clear hsc hex hA c1
  go_wp2
  go_loopw [5] (fun si wr => ∃ (i : Nat) (B' : Brd), i ≤ A.length ∧ si = .int .i64 i ∧ SCN wr s A v2 ld tl pg M B' ∧ Bd (DI A M i) B' ∧ Ex (fun k => k = s) w wr) (fun si _ => A.length - (intOf si).toNat)
  case atStart => exact ⟨0, B0, by omega, rfl, HS.out, (Bd.empty (fun _ _ _ => rfl)).iff DI_zero, HE.out⟩
  case round =>
    clear HS HE
    obtain ⟨i, B1, hi, rfl, hs, hb, hex⟩ := hrel
    have HS := hide hs
    have HB := hide hb
    have HE := hide hex
    clear hs hb hex
    obtain ⟨ct, hn⟩ := HS.out.ct
    by_cases hlt : i < A.length
    · have hlti : (i : Int) < (A.length : Int) := by omega
      have hi48 : (i : Int) < 48 := by omega
      obtain ⟨o, hto⟩ : ∃ o, A[i]? = some o := ⟨_, List.getElem?_eq_getElem hlt⟩
      have HT := hide hto
      clear hto
      have u0 := HS.out.ship HT.out (j := 0) (v := .int .i64 o.id) rfl
      have u1 := HS.out.ship HT.out (j := 1) (v := .int .i64 o.team) rfl
      have u2 := HS.out.ship HT.out (j := 2) (v := .int .i64 o.x) rfl
      have u3 := HS.out.ship HT.out (j := 3) (v := .int .i64 o.y) rfl
      have u4 := HS.out.ship HT.out (j := 4) (v := .int .i64 o.depth) rfl
      have u5 := HS.out.ship HT.out (j := 5) (v := .int .i64 o.speed) rfl
      have u6 := HS.out.ship HT.out (j := 6) (v := .int .i64 o.mast) rfl
      have u7 := HS.out.ship HT.out (j := 7) (v := .int .i64 o.noise) rfl
      have u8 := HS.out.ship HT.out (j := 8) (v := .bool o.afloat) rfl
      have u9 := HS.out.ship HT.out (j := 9) (v := .bool o.radar) rfl
      have u10 := HS.out.ship HT.out (j := 10) (v := .bool o.sonar) rfl
      have u11 := HS.out.ship HT.out (j := 11) (v := .bool o.ping) rfl
      rw [Nat.add_zero] at u0
      go_wp2_with fail
      refine (sweepRadar_any _ s A v2 ld tl pg M B1 HS.out _ HB.out o (List.mem_of_getElem? HT.out)).mono ?_
      rintro e w2 ⟨rfl, B2, hs2, hb2, ex2⟩
      have HS2 := hide hs2
      have HB2 := hide hb2
      have HE2 := hide (HE.out.trans ex2)
      clear hs2 hb2 ex2 HS HB HE ct u0 u1 u2 u3 u4 u5 u6 u7 u8 u9 u10 u11
      have u0 := HS2.out.ship HT.out (j := 0) (v := .int .i64 o.id) rfl
      have u1 := HS2.out.ship HT.out (j := 1) (v := .int .i64 o.team) rfl
      have u2 := HS2.out.ship HT.out (j := 2) (v := .int .i64 o.x) rfl
      have u3 := HS2.out.ship HT.out (j := 3) (v := .int .i64 o.y) rfl
      have u4 := HS2.out.ship HT.out (j := 4) (v := .int .i64 o.depth) rfl
      have u5 := HS2.out.ship HT.out (j := 5) (v := .int .i64 o.speed) rfl
      have u6 := HS2.out.ship HT.out (j := 6) (v := .int .i64 o.mast) rfl
      have u7 := HS2.out.ship HT.out (j := 7) (v := .int .i64 o.noise) rfl
      have u8 := HS2.out.ship HT.out (j := 8) (v := .bool o.afloat) rfl
      have u9 := HS2.out.ship HT.out (j := 9) (v := .bool o.radar) rfl
      have u10 := HS2.out.ship HT.out (j := 10) (v := .bool o.sonar) rfl
      have u11 := HS2.out.ship HT.out (j := 11) (v := .bool o.ping) rfl
      rw [Nat.add_zero] at u0
      go_wp2_with fail
      refine (listen_any _ s A v2 ld tl pg M B2 HS2.out _ HB2.out o (List.mem_of_getElem? HT.out)).mono ?_
      rintro e w3 ⟨rfl, B3, hs3, hb3, ex3⟩
      have HS3 := hide hs3
      have HB3 := hide hb3
      have HE3 := hide (HE2.out.trans ex3)
      clear hs3 hb3 ex3 HS2 HB2 HE2 u0 u1 u2 u3 u4 u5 u6 u7 u8 u9 u10 u11
      have u0 := HS3.out.ship HT.out (j := 0) (v := .int .i64 o.id) rfl
      have u1 := HS3.out.ship HT.out (j := 1) (v := .int .i64 o.team) rfl
      have u2 := HS3.out.ship HT.out (j := 2) (v := .int .i64 o.x) rfl
      have u3 := HS3.out.ship HT.out (j := 3) (v := .int .i64 o.y) rfl
      have u4 := HS3.out.ship HT.out (j := 4) (v := .int .i64 o.depth) rfl
      have u5 := HS3.out.ship HT.out (j := 5) (v := .int .i64 o.speed) rfl
      have u6 := HS3.out.ship HT.out (j := 6) (v := .int .i64 o.mast) rfl
      have u7 := HS3.out.ship HT.out (j := 7) (v := .int .i64 o.noise) rfl
      have u8 := HS3.out.ship HT.out (j := 8) (v := .bool o.afloat) rfl
      have u9 := HS3.out.ship HT.out (j := 9) (v := .bool o.radar) rfl
      have u10 := HS3.out.ship HT.out (j := 10) (v := .bool o.sonar) rfl
      have u11 := HS3.out.ship HT.out (j := 11) (v := .bool o.ping) rfl
      rw [Nat.add_zero] at u0
      go_wp2_with fail
      refine (workPings_any _ s A v2 ld tl pg M B3 HS3.out _ HB3.out o (List.mem_of_getElem? HT.out)).mono ?_
      rintro e w4 ⟨rfl, B4, hs4, hb4, ex4⟩
      have HS4 := hide hs4
      have HB4 := hide hb4
      have HE4 := hide (HE3.out.trans ex4)
      clear hs4 hb4 ex4 HS3 HB3 HE3 u0 u1 u2 u3 u4 u5 u6 u7 u8 u9 u10 u11
      go_wp2
      go_roundw
      case rel => exact ⟨i + 1, B4, by omega, by simp, HS4.out, HB4.out.iff (DI_succ HT.out), HE4.out⟩
      case measure => simp [intOf]; omega
    · have hlti : ¬ (i : Int) < (A.length : Int) := by omega
      obtain rfl : i = A.length := by omega
      go_wp2_with fail
      refine (report_any _ s B1 HS.out.brd).mono ?_
      rintro e w2 ⟨v, rfl, hr, b2⟩
      have HR := hide hr
      have HF : Hid (ScPost w s L M (.returned v) w2) := ⟨v, B1, rfl, hr.mono HE.out.size, HS.out.brd.below b2, by rw [HAA.out]; exact HB.out.iff DI_all, HE.out.trans (Ex.of b2)⟩
      clear hr b2 ct
      go_wp2
      go_ret
      exact HF.out
end Go.Proofs.Qxb6500776a
