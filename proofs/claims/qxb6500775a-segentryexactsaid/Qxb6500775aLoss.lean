import Derived.Test.Qxb6500775aFill2
namespace Go.Proofs.Qxb6500775a
open Go.RowKit

/-- The nine steps inside a decade, times 10^15. -/
def dm (j : Nat) : Nat :=
  if j = 1 then 1258925411794167 else if j = 2 then 1584893192461113 else if j = 3 then 1995262314968879 else if j = 4 then 2511886431509580 else if j = 5 then 3162277660168379 else if j = 6 then 3981071705534972 else if j = 7 then 5011872336272722 else if j = 8 then 6309573444801932 else if j = 9 then 7943282347242815 else 1000000000000000
theorem dm_any (w : World) (j : Nat) (hj : j < 10) : Calls Try.prog 102 #[.int .i64 j] w fun e w' => e = .returned (.int .i64 (dm j : Nat)) ∧ w' = w := by
  rcases (by omega : j = 0 ∨ j = 1 ∨ j = 2 ∨ j = 3 ∨ j = 4 ∨ j = 5 ∨ j = 6 ∨ j = 7 ∨ j = 8 ∨ j = 9) with rfl | rfl | rfl | rfl | rfl | rfl | rfl | rfl | rfl | rfl <;>
  · go_enter Try.func102, Try.ntmps102
    go_wp2
    go_ret
    exact ⟨rfl, rfl⟩
theorem dm_lt (j : Nat) : 1000000000000000 ≤ dm j ∧ dm j < 8000000000000000 := by
  unfold dm
  repeat' split
  all_goals omega
theorem pow10_any (w : World) (n : Nat) (hn : n ≤ 18) : Calls Try.prog 104 #[.int .i64 n] w fun e w' => e = .returned (.int .u64 (10 ^ n : Nat)) ∧ w' = w := by
  go_enter Try.func104, Try.ntmps104
  go_wp2
  go_loopw [3, 4] (fun s t wr => ∃ (i p : Nat), i ≤ n ∧ p = 10 ^ i ∧ s = .int .u64 p ∧ t = .int .i64 i ∧ wr = w) (fun _ t _ => n - (intOf t).toNat)
  case atStart => exact ⟨0, 1, by omega, rfl, rfl, rfl, rfl⟩
  case round =>
    obtain ⟨i, p, hi, hp, rfl, rfl, rfl⟩ := hrel
    by_cases h : i < n
    · have hp18 : p * 10 ≤ 10 ^ 18 := by rw [hp, ← Nat.pow_succ]; exact Nat.pow_le_pow_right (by omega) (by omega)
      have HP := hide hp
      clear hp
      go_wp2
      go_roundw
      case rel => exact ⟨i + 1, p * 10, by omega, by rw [HP.out, Nat.pow_succ], by simp, by simp, by simp⟩
      case measure => simp [intOf]; omega
    · have e : i = n := by omega
      subst e
      go_wp2
      go_ret
      exact ⟨by rw [hp]; rfl, rfl⟩
theorem floorDiv10_any (w : World) (a : Int) (h1 : -1000 ≤ a) (h2 : a < 1000) : Calls Try.prog 55 #[.int .i64 a, .int .i64 10] w fun x w' => x = .returned (.int .i64 (a / 10)) ∧ w' = w := by
  by_cases h0 : 0 ≤ a
  · go_enter Try.func55, Try.ntmps55
    go_wp2
    all_goals go_ret
    all_goals exact ⟨rfl, rfl⟩
  · have hm := Int.tmod_def a 10
    have hd : Int.tdiv a 10 = -((-a) / 10) := by
      have := Int.neg_tdiv (a := -a) (b := 10)
      rw [Int.neg_neg, Int.tdiv_eq_ediv_of_nonneg (a := -a) (by omega)] at this
      exact this
    obtain ⟨t, ht⟩ : ∃ t, Int.tdiv a 10 = t := ⟨_, rfl⟩
    obtain ⟨u, hu⟩ : ∃ u, Int.tmod a 10 = u := ⟨_, rfl⟩
    rw [ht] at hm hd
    rw [hu] at hm
    have hu9 : -9 ≤ u ∧ u ≤ 0 := by omega
    have ht9 : -100 ≤ t ∧ t ≤ 0 := by omega
    by_cases hz : u = 0
    · have hq : a / 10 = t := by omega
      rw [hq]
      clear hm hd
      go_enter Try.func55, Try.ntmps55
      go_wp2
      go_ret
      exact ⟨rfl, rfl⟩
    · have hq : a / 10 = t - 1 := by omega
      rw [hq]
      clear hm hd
      have hne : (u != 0) = true := by simp [hz]
      go_enter Try.func55, Try.ntmps55
      go_wp2
      go_ret
      exact ⟨rfl, rfl⟩
/-- A box of two words. -/
structure UB (w : World) (R : Nat) (h l : Int) : Prop where
  c0 : w.cell? ⟨R, 0, none⟩ = some (.int .u64 h)
  c1 : w.cell? ⟨R, 1, none⟩ = some (.int .u64 l)
  fr : ∀ j, w.frozen? ⟨R, j, none⟩ = false
theorem UB.below {w w' : World} {R : Nat} {h l : Int} (k : UB w R h l) (hb : Below w.heap.size w w') : UB w' R h l :=
  ⟨cellKeep hb k.c0, cellKeep hb k.c1, fun j => (hb.frozen (p := ⟨R, j, none⟩) (show R < w.heap.size from World.block_lt_of_cell? _ _ k.c0)).trans (k.fr j)⟩
theorem UB.drew {w : World} {R : Nat} {h l : Int} (k : UB w R h l) : UB w.drew R h l := ⟨k.c0, k.c1, k.fr⟩
theorem UB.new (w : World) (h l : Int) : UB (w.alloc (.cells #[.int .u64 h, .int .u64 l] 108)) w.heap.size h l := ⟨by simp [go_sem], by simp [go_sem], fun j => by simp [go_sem]⟩
theorem UB.set {w : World} {R : Nat} {h l a b : Int} (k : UB w R h l) : UB ((w.setCell ⟨R, 0, none⟩ (.int .u64 a)).setCell ⟨R, 1, none⟩ (.int .u64 b)) R a b := by
  have c0 := k.c0
  have c1 := k.c1
  have fr := k.fr
  exact ⟨by simp [go_sem, c0], by simp [go_sem, c1], fun j => by simp [go_sem, fr]⟩
theorem mulWord_parts {h l x : Int} (hh : Word h) (hl : Word l) (hx : Word x) (hs : v128 h l * x < 340282366920938463463374607431768211456) :
    Word (l * x / 18446744073709551616) ∧ Word (l * x % 18446744073709551616) ∧ 0 ≤ h * x ∧ l * x / 18446744073709551616 + h * x < 18446744073709551616 ∧ v128 (l * x / 18446744073709551616 + h * x) (l * x % 18446744073709551616) = v128 h l * x := by
  have m1 := words_mul hl hx
  have m2 := words_mul hh hx
  have e : v128 h l * x = h * x * 18446744073709551616 + l * x := by unfold v128; rw [Int.add_mul, Int.mul_right_comm]
  rw [e] at hs ⊢
  clear e
  unfold v128
  generalize h * x = a at *
  generalize l * x = b at *
  unfold Word
  omega
theorem mulWord_any (w : World) (h l x : Int) (hh : Word h) (hl : Word l) (hx : Word x) (hs : v128 h l * x < 340282366920938463463374607431768211456) :
    Calls Try.prog 103 #[.agg #[.int .u64 h, .int .u64 l], .int .u64 x] w fun e w' => ∃ a b, e = .returned (.agg #[.int .u64 a, .int .u64 b]) ∧ v128 a b = v128 h l * x ∧ Word a ∧ Word b ∧ Below w.heap.size w w' := by
  obtain ⟨wa, wb, n0, n1, hv⟩ := mulWord_parts hh hl hx hs
  obtain ⟨W, hW⟩ : ∃ W, W = (w.alloc (.cells #[.int .u64 h, .int .u64 l] 108)).alloc (.cells #[.int .u64 0, .int .u64 0] 108) := ⟨_, rfl⟩
  have HB : Hid (Below w.heap.size w W) := by rw [hW]; exact ((Below.refl _ _).alloc (Nat.le_refl _) _).alloc (by simp) _
  have HU : Hid (UB W w.heap.size h l) := by rw [hW]; exact (UB.new w h l).below (belA _ _)
  have HR : Hid (RB W (w.heap.size + 1)) := by rw [hW]; exact ⟨by simp [go_sem], by simp [go_sem], fun j => by simp [go_sem]⟩
  go_enter Try.func103, Try.ntmps103
  go_upto_region 1 with fail
  rw [← hW]
  clear hW
  have c0 := HU.out.c0
  have c1 := HU.out.c1
  go_wp2_with fail
  refine (mulU64_any _ l x hl hx).mono ?_
  rintro e w1 ⟨rfl, hb1⟩
  replace HB := hide (HB.out.trans (hb1.mono HB.out.size))
  replace HU := hide (HU.out.below hb1)
  replace HR := hide (HR.out.below hb1)
  clear hb1 c0 c1
  obtain ⟨pa, hpa⟩ : ∃ z, z = l * x / 18446744073709551616 := ⟨_, rfl⟩
  obtain ⟨pb, hpb⟩ : ∃ z, z = l * x % 18446744073709551616 := ⟨_, rfl⟩
  obtain ⟨hx', hhx⟩ : ∃ z, z = h * x := ⟨_, rfl⟩
  rw [← hpa, ← hpb]
  rw [← hpa] at wa n1 hv
  rw [← hpb] at wb hv
  rw [← hhx] at n0 n1 hv
  obtain ⟨wa0, wa1⟩ := wa
  have hhx' := hhx.symm
  have k1 : IntKind.u64.wrap hx' = hx' := IntWalk.u64_in _ (by omega)
  have k2 : IntKind.u64.wrap (pa + hx') = pa + hx' := IntWalk.u64_in _ (by omega)
  have HV := hide hv
  clear hpa hpb hv hs hhx
  go_upto_region 2 with fail
  replace HB := hide (HB.out.trans ((belA w1 (.cells #[.int .u64 pa, .int .u64 pb] 108)).mono HB.out.size))
  replace HU := hide (HU.out.below (belA w1 (.cells #[.int .u64 pa, .int .u64 pb] 108)))
  have hP : w.heap.size + 1 < w1.heap.size := World.block_lt_of_cell? _ _ HR.out.c0
  replace HR := hide (HR.out.below (belA w1 (.cells #[.int .u64 pa, .int .u64 pb] 108)))
  have HP := hide (UB.new w1 pa pb)
  generalize w1.alloc (.cells #[.int .u64 pa, .int .u64 pb] 108) = w2 at *
  generalize w1.heap.size = P at *
  generalize hRR : w.heap.size + 1 = R at *
  have c0 := HU.out.c0
  have d0 := HP.out.c0
  have d1 := HP.out.c1
  have df := HP.out.fr
  have r0 := HR.out.c0
  have r1 := HR.out.c1
  have rf := HR.out.fr
  go_wp2
  exact bodyPost_ret (v := .agg #[.int .u64 (pa + hx'), .int .u64 pb]) (by simp [results, Try.results103, go_sem, *]) rfl ⟨pa + hx', pb, rfl, HV.out, ⟨by omega, by omega⟩, wb, ((HB.out.setCell (by simp; omega) _).setCell (by simp; omega) _).setCell (by simp; omega) _⟩
end Go.Proofs.Qxb6500775a
