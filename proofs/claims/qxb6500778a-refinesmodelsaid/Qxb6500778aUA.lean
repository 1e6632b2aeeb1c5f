import Derived.Test.Qxb6500778aU9
namespace Go.Proofs.Qxb6500778a
open Go.RowKit

set_option linter.unusedSimpArgs false in
set_option maxRecDepth 100000 in
set_option maxHeartbeats 8000000 in
/-- RouteAdd: the route is there, or the device is full -/
theorem mch_0bad (w : World) (b : Nat) (M : MN) (vr va : Nat → Value) (h : MX w b M vr va) (d : Nat) (hd : d < 16) (hp pr ln ix cl : Int) (pm up : Bool) (h1 : (M.rt d).length ≤ 1000000) (h2 : (M.ac d).length ≤ 1000000)
    (hb : 0 ≤ ixR (M.rt d) pr ln 0 ∨ 64 ≤ (M.rt d).length + (M.ac d).length) :
    Calls Try.prog 71 #[.pointer (some ⟨b, 0, none⟩), chV ⟨0, d, hp, pr, ln, ix, cl, pm, up⟩] w (CMPost w b vr va (if 0 ≤ ixR (M.rt d) pr ln 0 then 6 else 8) M) := by
  have nc := fun j u hh => new_cells w [.int .i64 0, .int .i64 (d : Int), .int .i64 hp, .int .i64 pr, .int .i64 ln, .int .i64 ix, .int .i64 cl, .bool pm, .bool up] 45 j u hh
  have c0 := nc 0 _ rfl
  have c1 := nc 1 _ rfl
  have c3 := nc 3 _ rfl
  have c4 := nc 4 _ rfl
  simp only [Addr.add_mid, Nat.zero_add] at c0 c1 c3 c4
  clear nc
  have HX := hide (h.new ((Ex.refl _ w).alloc (.cells #[.int .i64 0, .int .i64 (d : Int), .int .i64 hp, .int .i64 pr, .int .i64 ln, .int .i64 ix, .int .i64 cl, .bool pm, .bool up] 45)))
  have HE : Hid (Ex (fun _ => False) w (w.alloc (.cells #[.int .i64 0, .int .i64 (d : Int), .int .i64 hp, .int .i64 pr, .int .i64 ln, .int .i64 ix, .int .i64 cl, .bool pm, .bool up] 45))) := (Ex.refl _ w).alloc _
  clear h
  have HRA := hide (routeAt_any _ b 0 M vr va HX.out.ma d hd pr ln h1)
  have HFU := hide (full_any _ b 0 M vr va HX.out.ma d hd h1 h2)
  obtain ⟨at_, hat⟩ : ∃ a, ixR (M.rt d) pr ln 0 = a := ⟨_, rfl⟩
  rw [hat] at HRA hb
  rw [hat]
  clear hat
  unfold chV
  simp only []
  by_cases hz : 0 ≤ at_
  · have dz : decide (0 ≤ at_) = true := decide_eq_true hz
    rw [if_pos hz]
    clear hb
    go_enter Try.func71, Try.ntmps71
    go_upto_region 1 with fail
    generalize w.alloc (.cells #[.int .i64 0, .int .i64 (d : Int), .int .i64 hp, .int .i64 pr, .int .i64 ln, .int .i64 ix, .int .i64 cl, .bool pm, .bool up] 45) = W at *
    go_wp2_with fail
    refine HRA.out.mono ?_
    rintro e w2 ⟨rfl, rfl⟩
    go_wp2
    go_ret
    exact ⟨rfl, HE.out.mono (fun _ z => z.elim), vr, va, HX.out, fun k hk => .inl hk⟩
  · have dz : decide (0 ≤ at_) = false := decide_eq_false hz
    rw [if_neg hz]
    have hfull : 64 ≤ (M.rt d).length + (M.ac d).length := by
      rcases hb with z | z
      · exact absurd z hz
      · exact z
    rw [decide_eq_true hfull] at HFU
    clear hb hfull hz
    go_enter Try.func71, Try.ntmps71
    go_upto_region 1 with fail
    generalize w.alloc (.cells #[.int .i64 0, .int .i64 (d : Int), .int .i64 hp, .int .i64 pr, .int .i64 ln, .int .i64 ix, .int .i64 cl, .bool pm, .bool up] 45) = W at *
    go_wp2_with fail
    refine HRA.out.mono ?_
    rintro e w2 ⟨rfl, rfl⟩
    go_wp2_with fail
    refine HFU.out.mono ?_
    rintro e w3 ⟨rfl, m, rfl⟩
    have HE3 : Hid (Ex (MFt b vr va) w (World.drewN _ m)) := (HE.out.mono (fun _ z => z.elim)).drewN m
    have HX3 := hide (HX.out.new ((Ex.refl (fun _ => False) _).drewN m))
    go_wp2
    go_ret
    exact ⟨rfl, HE3.out, vr, va, HX3.out, fun k hk => .inl hk⟩
end Go.Proofs.Qxb6500778a
