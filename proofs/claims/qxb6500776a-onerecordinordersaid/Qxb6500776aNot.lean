import Derived.Test.Qxb6500776aFoe
namespace Go.Proofs.Qxb6500776a
open Go.RowKit

/-- The board's cells. -/
def BB (C : Nat → Value) (B : Brd) : Prop := ∀ T i k, T < 4 → i < 48 → k < 4 → C (1718 + T * 768 + i * 16 + k * 4) = .bool (B T i k).seen ∧ C (1718 + T * 768 + i * 16 + k * 4 + 1) = .int .i64 (B T i k).obs ∧ C (1718 + T * 768 + i * 16 + k * 4 + 2) = .int .i64 (B T i k).d ∧ C (1718 + T * 768 + i * 16 + k * 4 + 3) = .int .i64 (B T i k).g
theorem BB.set {C : Nat → Value} {B : Brd} (h : BB C B) {T i k : Nat} (hT : T < 4) (hi : i < 48) (hk : k < 4) (m : Mk) :
    BB (updC (updC (updC (updC C (1718 + T * 768 + i * 16 + k * 4) (.bool m.seen)) (1718 + T * 768 + i * 16 + k * 4 + 1) (.int .i64 m.obs)) (1718 + T * 768 + i * 16 + k * 4 + 2) (.int .i64 m.d)) (1718 + T * 768 + i * 16 + k * 4 + 3) (.int .i64 m.g)) (noteP B T i k m) := by
  intro T' i' k' hT' hi' hk'
  unfold noteP
  by_cases e : T' = T ∧ i' = i ∧ k' = k
  · obtain ⟨rfl, rfl, rfl⟩ := e
    rw [if_pos ⟨rfl, rfl, rfl⟩]
    refine ⟨?_, ?_, ?_, ?_⟩
    · rw [updC_other _ _ (by omega), updC_other _ _ (by omega), updC_other _ _ (by omega), updC_same]
    · rw [updC_other _ _ (by omega), updC_other _ _ (by omega), updC_same]
    · rw [updC_other _ _ (by omega), updC_same]
    · rw [updC_same]
  · rw [if_neg e]
    have hne : T' * 768 + i' * 16 + k' * 4 ≠ T * 768 + i * 16 + k * 4 := fun z => e (by omega)
    obtain ⟨h1, h2, h3, h4⟩ := h T' i' k' hT' hi' hk'
    refine ⟨?_, ?_, ?_, ?_⟩
    · rw [updC_other _ _ (by omega), updC_other _ _ (by omega), updC_other _ _ (by omega), updC_other _ _ (by omega)]; exact h1
    · rw [updC_other _ _ (by omega), updC_other _ _ (by omega), updC_other _ _ (by omega), updC_other _ _ (by omega)]; exact h2
    · rw [updC_other _ _ (by omega), updC_other _ _ (by omega), updC_other _ _ (by omega), updC_other _ _ (by omega)]; exact h3
    · rw [updC_other _ _ (by omega), updC_other _ _ (by omega), updC_other _ _ (by omega), updC_other _ _ (by omega)]; exact h4
theorem noteP_self (B : Brd) (T i k : Nat) : noteP B T i k (B T i k) = B := by
  funext T' i' k'
  unfold noteP
  split
  · next e => obtain ⟨rfl, rfl, rfl⟩ := e; rfl
  · rfl
def NotPost (w : World) (s : Nat) (C : Nat → Value) (B' : Brd) (e : Ending) (w' : World) : Prop := e = .returned (.tuple #[]) ∧ ∃ C', CB w' s C' ∧ BB C' B' ∧ (∀ x, x < 1718 → C' x = C x) ∧ Ex (fun k => k = s) w w'
set_option maxRecDepth 100000 in
set_option maxHeartbeats 2000000 in
theorem note_any (w : World) (s : Nat) (C : Nat → Value) (B : Brd) (h : CB w s C) (hb : BB C B) (o t : Shp) (ho : ShpOk o) (ht : ShpOk t) (T i k : Nat) (hT : o.team = T) (hi : t.id = i) (hk : k < 4) (d g : Int) :
    Calls Try.prog 55 #[.pointer (some ⟨s, 0, none⟩), .agg #[.int .i64 o.id, .int .i64 o.team, .int .i64 o.x, .int .i64 o.y, .int .i64 o.depth, .int .i64 o.speed, .int .i64 o.mast, .int .i64 o.noise, .bool o.afloat, .bool o.radar, .bool o.sonar, .bool o.ping], .agg #[.int .i64 t.id, .int .i64 t.team, .int .i64 t.x, .int .i64 t.y, .int .i64 t.depth, .int .i64 t.speed, .int .i64 t.mast, .int .i64 t.noise, .bool t.afloat, .bool t.radar, .bool t.sonar, .bool t.ping], .int .i64 k, .int .i64 d, .int .i64 g] w (NotPost w s C (noteP B T i k (noteM (B T i k) o.id d g))) := by
  have hT4 : T < 4 := by have := ho.team; omega
  have hi48 : i < 48 := by have := ht.id; omega
  have HX := hide ((BX.new w o).keep ((Ex.refl (fun _ => False) _).alloc (.cells (shpA t) 38)) (fun e => e))
  have HY := hide (BX.new (w.alloc (.cells (shpA o) 38)) t)
  have hsz : (w.alloc (.cells (shpA o) 38)).heap.size = w.heap.size + 1 := by simp
  rw [hsz] at HY
  have HE := hide (((Ex.refl (fun k => k = s) w).alloc (.cells (shpA o) 38)).alloc (.cells (shpA t) 38))
  have HC := hide (h.keep (((Ex.refl (fun _ => False) w).alloc (.cells (shpA o) 38)).alloc (.cells (shpA t) 38)) (fun e => e))
  have HB := hide hb
  clear h hb hsz
  obtain ⟨m1, m2, m3, m4⟩ := HB.out T i k hT4 hi48 hk
  generalize hm : B T i k = m at *
  have HM := hide hm
  have Hn := hide (And.intro hT hi)
  clear hm hT hi ho ht
  go_enter Try.func55, Try.ntmps55
  go_upto_region 1 with fail
  have hsa : #[.int .i64 o.id, .int .i64 o.team, .int .i64 o.x, .int .i64 o.y, .int .i64 o.depth, .int .i64 o.speed, .int .i64 o.mast, .int .i64 o.noise, .bool o.afloat, .bool o.radar, .bool o.sonar, .bool o.ping] = shpA o := rfl
  have hst : #[.int .i64 t.id, .int .i64 t.team, .int .i64 t.x, .int .i64 t.y, .int .i64 t.depth, .int .i64 t.speed, .int .i64 t.mast, .int .i64 t.noise, .bool t.afloat, .bool t.radar, .bool t.sonar, .bool t.ping] = shpA t := rfl
  rw [hsa, hst]
  clear hsa hst
  generalize (w.alloc (.cells (shpA o) 38)).alloc (.cells (shpA t) 38) = w1 at *
  obtain ⟨q2, hq2⟩ : ∃ q, w.heap.size + 1 = q := ⟨_, rfl⟩
  rw [hq2] at HY ⊢
  clear hq2
  obtain ⟨q, hq⟩ : ∃ q, w.heap.size = q := ⟨_, rfl⟩
  rw [hq] at HX ⊢
  clear hq
  have x0 := HX.out.c0
  have x1 := HX.out.c1
  have y0 := HY.out.c0
  rw [Hn.out.1] at x1
  rw [Hn.out.2] at y0
  have hTi : (T : Int) < 4 := by omega
  have hii : (i : Int) < 48 := by omega
  have hki : (k : Int) < 4 := by omega
  go_quiet (fail)
  go_upto_region 2 with fail
  have HX2 := hide (HX.out.drewN nq)
  have HC2 := hide (HC.out.drewN nq)
  have HE2 := hide (HE.out.drewN nq)
  generalize w1.drewN nq = w2 at *
  clear x0 x1 y0 HX HY HC HE
  obtain ⟨a, ha⟩ : ∃ a, 1718 + T * 768 + i * 16 + k * 4 = a := ⟨_, rfl⟩
  rw [ha] at m1 m2 m3 m4 ⊢
  have ha2 : a + 3 < 4790 := by omega
  have HAA := hide ha
  clear ha
  have z0 := HC2.out.c a (by omega)
  have z1 := HC2.out.c (a + 1) (by omega)
  have z2 := HC2.out.c (a + 2) (by omega)
  have z3 := HC2.out.c (a + 3) (by omega)
  have f0 := HC2.out.fr a
  have f1 := HC2.out.fr (a + 1)
  have f2 := HC2.out.fr (a + 2)
  have f3 := HC2.out.fr (a + 3)
  rw [m1] at z0
  rw [m2] at z1
  rw [m3] at z2
  rw [m4] at z3
  clear m1 m2 m3 m4
  have x0 := HX2.out.c0
  have hnm : noteM m o.id d g = (if m.seen = true ∧ (m.d < d ∨ (d = m.d ∧ m.obs < o.id)) then m else ⟨true, o.id, d, g⟩) := rfl
  have HNM := hide hnm
  clear hnm
  have STAY : Hid (noteM m o.id d g = m → ∀ nq, NotPost w s C (noteP B T i k (noteM m o.id d g)) (.returned (.tuple #[])) (w2.drewN nq)) := fun e nq => by
    rw [e, ← HM.out, noteP_self]
    exact ⟨rfl, C, HC2.out.drewN nq, HB.out, fun _ _ => rfl, HE2.out.drewN nq⟩
  have WRITE : Hid (noteM m o.id d g = ⟨true, o.id, d, g⟩ → ∀ nq, NotPost w s C (noteP B T i k (noteM m o.id d g)) (.returned (.tuple #[])) (((((w2.drewN nq).setCell ⟨s, a, none⟩ (.bool true)).setCell ⟨s, a + 1, none⟩ (.int .i64 o.id)).setCell ⟨s, a + 2, none⟩ (.int .i64 d)).setCell ⟨s, a + 3, none⟩ (.int .i64 g))) := fun e nq => by
    rw [e]
    have hs := HB.out.set hT4 hi48 hk ⟨true, o.id, d, g⟩
    rw [HAA.out] at hs
    refine ⟨rfl, _, ((((HC2.out.drewN nq).set (by omega) _).set (by omega) _).set (by omega) _).set (by omega) _, hs, fun x hx => ?_, (((((HE2.out.drewN nq).set (p := s) rfl _).set (p := s) rfl _).set (p := s) rfl _).set (p := s) rfl _)⟩
    have := HAA.out
    rw [updC_other _ _ (by omega), updC_other _ _ (by omega), updC_other _ _ (by omega), updC_other _ _ (by omega)]
  clear HC2 HE2 HX2 HB HM Hn HAA
  cases hseen : m.seen
  · rw [hseen] at z0
    go_quiet (fail)
    go_wp2
    go_end0
    exact WRITE.out (by rw [HNM.out, if_neg (by rw [hseen]; simp)]) _
  · rw [hseen] at z0
    by_cases h1 : m.d < d
    · go_quiet (fail)
      go_wp2
      go_end0
      exact STAY.out (by rw [HNM.out, if_pos ⟨hseen, .inl h1⟩]) _
    · by_cases h2 : d = m.d
      · by_cases h3 : m.obs < o.id
        · have H2 := hide h2
          have h2b : (d == m.d) = true := by simp [h2]
          clear h2
          go_quiet (fail)
          go_wp2
          go_end0
          exact STAY.out (by rw [HNM.out, if_pos ⟨hseen, .inr ⟨H2.out, h3⟩⟩]) _
        · have H2 := hide h2
          have h2b : (d == m.d) = true := by simp [h2]
          clear h2
          go_quiet (fail)
          go_wp2
          go_end0
          exact WRITE.out (by rw [HNM.out, if_neg (by rw [hseen]; simp; have := H2.out; omega)]) _
      · have h2b : (d == m.d) = false := by simp [h2]
        go_quiet (fail)
        go_wp2
        go_end0
        exact WRITE.out (by rw [HNM.out, if_neg (by rw [hseen]; simp; omega)]) _
end Go.Proofs.Qxb6500776a
