import Derived.Test.Qxb6500776aExc
namespace Go.Proofs.Qxb6500776a
open Go.RowKit

/-- A ship in its box. -/
structure SX (wx : World) (p : Nat) (s : Shp) : Prop where
  c0 : wx.cell? ⟨p, 0, none⟩ = some (.int .i64 s.id)
  c1 : wx.cell? ⟨p, 1, none⟩ = some (.int .i64 s.team)
  c2 : wx.cell? ⟨p, 2, none⟩ = some (.int .i64 s.x)
  c3 : wx.cell? ⟨p, 3, none⟩ = some (.int .i64 s.y)
  c4 : wx.cell? ⟨p, 4, none⟩ = some (.int .i64 s.depth)
  c5 : wx.cell? ⟨p, 5, none⟩ = some (.int .i64 s.speed)
  c6 : wx.cell? ⟨p, 6, none⟩ = some (.int .i64 s.mast)
  c7 : wx.cell? ⟨p, 7, none⟩ = some (.int .i64 s.noise)
  c8 : wx.cell? ⟨p, 8, none⟩ = some (.bool s.afloat)
  c9 : wx.cell? ⟨p, 9, none⟩ = some (.bool s.radar)
  c10 : wx.cell? ⟨p, 10, none⟩ = some (.bool s.sonar)
  c11 : wx.cell? ⟨p, 11, none⟩ = some (.bool s.ping)
theorem SX.below {wx wy : World} {p : Nat} {s : Shp} (h : SX wx p s) (hb : Below wx.heap.size wx wy) : SX wy p s := ⟨cellKeep hb h.c0, cellKeep hb h.c1, cellKeep hb h.c2, cellKeep hb h.c3, cellKeep hb h.c4, cellKeep hb h.c5, cellKeep hb h.c6, cellKeep hb h.c7, cellKeep hb h.c8, cellKeep hb h.c9, cellKeep hb h.c10, cellKeep hb h.c11⟩
theorem SX.new (w : World) (s : Shp) : SX (w.alloc (.cells #[.int .i64 s.id, .int .i64 s.team, .int .i64 s.x, .int .i64 s.y, .int .i64 s.depth, .int .i64 s.speed, .int .i64 s.mast, .int .i64 s.noise, .bool s.afloat, .bool s.radar, .bool s.sonar, .bool s.ping] 38)) w.heap.size s := ⟨by simp [go_sem], by simp [go_sem], by simp [go_sem], by simp [go_sem], by simp [go_sem], by simp [go_sem], by simp [go_sem], by simp [go_sem], by simp [go_sem], by simp [go_sem], by simp [go_sem], by simp [go_sem]⟩
set_option maxRecDepth 100000 in
set_option maxHeartbeats 2000000 in
set_option linter.unusedSimpArgs false in
/-- sensorsm.Excess. -/
theorem excess_any (w : World) (a b : Shp) (ha : ShpOk a) (hb : ShpOk b) : Calls Try.prog 42 #[.agg #[.int .i64 a.id, .int .i64 a.team, .int .i64 a.x, .int .i64 a.y, .int .i64 a.depth, .int .i64 a.speed, .int .i64 a.mast, .int .i64 a.noise, .bool a.afloat, .bool a.radar, .bool a.sonar, .bool a.ping], .agg #[.int .i64 b.id, .int .i64 b.team, .int .i64 b.x, .int .i64 b.y, .int .i64 b.depth, .int .i64 b.speed, .int .i64 b.mast, .int .i64 b.noise, .bool b.afloat, .bool b.radar, .bool b.sonar, .bool b.ping]] w fun e w' => e = .returned (.int .i64 (excP a b (dstP a b))) ∧ Below w.heap.size w w' := by
  have cd := fun w => hide (dist_any w a b ha hb)
  obtain ⟨d, hd⟩ : ∃ d, dstP a b = d := ⟨_, rfl⟩
  rw [hd] at cd ⊢
  have c2 := fun w => hide (decibel_bel w d)
  have r1 : 0 ≤ b.noise + 2 * b.speed ∧ b.noise + 2 * b.speed ≤ 240 := by have := hb.speed; have := hb.noise; omega
  have r1b := hb.speed
  have r1c := hb.noise
  have r2 := decP_le d
  have r3 := ha.speed
  have hE : excP a b d = b.noise + 2 * b.speed - (decP d : Nat) - (40 + a.speed) - layP a b := rfl
  rw [hE]
  clear hE hd ha hb
  generalize decP d = S2 at *
  have hS2 : (S2 : Int) ≤ 130 := by omega
  go_enter Try.func42, Try.ntmps42
  go_upto_region 1 with fail
  have HA := hide ((SX.new w a).below (be1 _ (.cells #[.int .i64 b.id, .int .i64 b.team, .int .i64 b.x, .int .i64 b.y, .int .i64 b.depth, .int .i64 b.speed, .int .i64 b.mast, .int .i64 b.noise, .bool b.afloat, .bool b.radar, .bool b.sonar, .bool b.ping] 38)))
  have HB' := hide (SX.new (w.alloc (.cells #[.int .i64 a.id, .int .i64 a.team, .int .i64 a.x, .int .i64 a.y, .int .i64 a.depth, .int .i64 a.speed, .int .i64 a.mast, .int .i64 a.noise, .bool a.afloat, .bool a.radar, .bool a.sonar, .bool a.ping] 38)) b)
  have HB := hide (be2 w (.cells #[.int .i64 a.id, .int .i64 a.team, .int .i64 a.x, .int .i64 a.y, .int .i64 a.depth, .int .i64 a.speed, .int .i64 a.mast, .int .i64 a.noise, .bool a.afloat, .bool a.radar, .bool a.sonar, .bool a.ping] 38) (.cells #[.int .i64 b.id, .int .i64 b.team, .int .i64 b.x, .int .i64 b.y, .int .i64 b.depth, .int .i64 b.speed, .int .i64 b.mast, .int .i64 b.noise, .bool b.afloat, .bool b.radar, .bool b.sonar, .bool b.ping] 38))
  have hsz : (w.alloc (.cells #[.int .i64 a.id, .int .i64 a.team, .int .i64 a.x, .int .i64 a.y, .int .i64 a.depth, .int .i64 a.speed, .int .i64 a.mast, .int .i64 a.noise, .bool a.afloat, .bool a.radar, .bool a.sonar, .bool a.ping] 38)).heap.size = w.heap.size + 1 := by simp
  rw [hsz] at HB'
  clear hsz
  generalize (w.alloc (.cells #[.int .i64 a.id, .int .i64 a.team, .int .i64 a.x, .int .i64 a.y, .int .i64 a.depth, .int .i64 a.speed, .int .i64 a.mast, .int .i64 a.noise, .bool a.afloat, .bool a.radar, .bool a.sonar, .bool a.ping] 38)).alloc (.cells #[.int .i64 b.id, .int .i64 b.team, .int .i64 b.x, .int .i64 b.y, .int .i64 b.depth, .int .i64 b.speed, .int .i64 b.mast, .int .i64 b.noise, .bool b.afloat, .bool b.radar, .bool b.sonar, .bool b.ping] 38) = W at *
  obtain ⟨pb, hpb⟩ : ∃ p, w.heap.size + 1 = p := ⟨_, rfl⟩
  rw [hpb] at HB' ⊢
  clear hpb
  obtain ⟨pa, hpa⟩ : ∃ p, w.heap.size = p := ⟨_, rfl⟩
  rw [hpa] at HA ⊢
  clear hpa
  obtain ⟨x0, x1, x2, x3, x4, x5, x6, x7, x8, x9, x10, x11⟩ := HA.out
  obtain ⟨y0, y1, y2, y3, y4, y5, y6, y7, y8, y9, y10, y11⟩ := HB'.out
  go_wp2_with fail
  refine (cd _).out.mono ?_
  rintro e w1 ⟨rfl, b1⟩
  replace HA := hide (HA.out.below b1)
  replace HB' := hide (HB'.out.below b1)
  replace HB := hide (lec HB.out b1)
  clear b1 x0 y0 x1 y1 x2 y2 x3 y3 x4 y4 x5 y5 x6 y6 x7 y7 x8 y8 x9 y9 x10 y10 x11 y11 cd
  go_wp2_with fail
  refine (c2 _).out.mono ?_
  rintro e w2 ⟨rfl, b2⟩
  replace HA := hide (HA.out.below b2)
  replace HB' := hide (HB'.out.below b2)
  replace HB := hide (lec HB.out b2)
  clear b2 c2
  have x4 := HA.out.c4
  have x5 := HA.out.c5
  have y4 := HB'.out.c4
  by_cases g1 : a.depth < 100 <;> by_cases g2 : b.depth < 100
  all_goals
    go_wp2
    go_ret
    refine ⟨ret_int ?_, HB.out⟩
    first
      | (simp [layP, g1, g2]; done)
      | (have n1 : ¬ a.depth < 100 := by omega
         simp [layP, n1, g2]; done)
      | (have n2 : ¬ b.depth < 100 := by omega
         simp [layP, g1, n2]; done)
      | (have n1 : ¬ a.depth < 100 := by omega
         have n2 : ¬ b.depth < 100 := by omega
         simp [layP, n1, n2]; done)
end Go.Proofs.Qxb6500776a
