import Derived.Test.Qxb6500778aU8
import Derived.Test.Qxb6500778aMB
namespace Go.Proofs.Qxb6500778a
open Go.RowKit

/-- the blocks of a working copy -/
def MFt (b : Nat) (vr va : Nat → Value) (k : Nat) : Prop := k = b ∨ ∃ d, d < 16 ∧ ((vr d).ownBlock = some k ∨ (va d).ownBlock = some k)
def CMPost (w : World) (b : Nat) (vr va : Nat → Value) (er : Int) (M' : MN) (e : Ending) (w' : World) : Prop :=
  e = .returned (.int .i64 er) ∧ Ex (MFt b vr va) w w' ∧ ∃ vr' va', MX w' b M' vr' va' ∧ ∀ k, MFt b vr' va' k → MFt b vr va k ∨ w.heap.size ≤ k
theorem MX.new {w w' : World} {b : Nat} {M : MN} {vr va : Nat → Value} (h : MX w b M vr va) (e : Ex (fun _ => False) w w') : MX w' b M vr va :=
  ⟨h.ma.new e, fun j => (e.frozen (fun z => z) (World.block_lt_of_cell? _ _ (h.ma.r 0 (by omega)))).trans (h.fz j), h.rb, h.ab, h.rr, h.aa, h.ra⟩
set_option linter.unusedSimpArgs false in
set_option maxRecDepth 100000 in
set_option maxHeartbeats 8000000 in
theorem mch_5 (w : World) (b : Nat) (M : MN) (vr va : Nat → Value) (h : MX w b M vr va) (d : Nat) (hd : d < 16) (hp pr ln ix cl : Int) (pm up : Bool) :
    Calls Try.prog 71 #[.pointer (some ⟨b, 0, none⟩), chV ⟨5, d, hp, pr, ln, ix, cl, pm, up⟩] w (CMPost w b vr va 0 { M with up := upd M.up d up }) := by
  have nc := fun j u hh => new_cells w [.int .i64 5, .int .i64 (d : Int), .int .i64 hp, .int .i64 pr, .int .i64 ln, .int .i64 ix, .int .i64 cl, .bool pm, .bool up] 45 j u hh
  have c0 := nc 0 _ rfl
  have c1 := nc 1 _ rfl
  have c8 := nc 8 _ rfl
  simp only [Addr.add_mid, Nat.zero_add] at c0 c1 c8
  clear nc
  have HX := hide (h.new ((Ex.refl _ w).alloc (.cells #[.int .i64 5, .int .i64 (d : Int), .int .i64 hp, .int .i64 pr, .int .i64 ln, .int .i64 ix, .int .i64 cl, .bool pm, .bool up] 45)))
  have HE : Hid (Ex (fun _ => False) w (w.alloc (.cells #[.int .i64 5, .int .i64 (d : Int), .int .i64 hp, .int .i64 pr, .int .i64 ln, .int .i64 ix, .int .i64 cl, .bool pm, .bool up] 45))) := (Ex.refl _ w).alloc _
  have hdi : (d : Int) < 16 := by omega
  clear h
  unfold chV
  simp only []
  go_enter Try.func71, Try.ntmps71
  go_upto_region 1 with fail
  generalize w.alloc (.cells #[.int .i64 5, .int .i64 (d : Int), .int .i64 hp, .int .i64 pr, .int .i64 ln, .int .i64 ix, .int .i64 cl, .bool pm, .bool up] 45) = W at *
  obtain ⟨r, hr⟩ : ∃ r, w.heap.size = r := ⟨_, rfl⟩
  rw [hr] at c0 c1 c8 ⊢
  clear hr
  have u0 := HX.out.ma.u d hd
  have fz := HX.out.fz
  rw [Nat.zero_add] at u0
  have HY := hide (HX.out.setU hd up)
  rw [Nat.zero_add] at HY
  have HEY : Hid (Ex (MFt b vr va) w (W.setCell ⟨b, 32 + d, none⟩ (.bool up))) := (HE.out.mono (fun _ z => z.elim)).set (p := b) (.inl rfl) _
  go_upto_region 48 with fail
  go_region
  have HZ := hide (HY.out.new ((Ex.refl (fun _ => False) _).drew))
  have HEZ := hide (HEY.out.drew)
  go_wp2
  go_ret
  exact ⟨rfl, HEZ.out, vr, va, HZ.out, fun k hk => .inl hk⟩
set_option linter.unusedSimpArgs false in
set_option maxRecDepth 100000 in
set_option maxHeartbeats 8000000 in
theorem mch_4 (w : World) (b : Nat) (M : MN) (vr va : Nat → Value) (h : MX w b M vr va) (d e : Nat) (hd : d < 16) (he : e < 16) (pr ln ix cl : Int) (pm up : Bool) :
    Calls Try.prog 71 #[.pointer (some ⟨b, 0, none⟩), chV ⟨4, d, e, pr, ln, ix, cl, pm, up⟩] w (CMPost w b vr va 0 { M with lk := upd (upd M.lk d (upd (M.lk d) e up)) e (upd (upd M.lk d (upd (M.lk d) e up) e) d up) }) := by
  have nc := fun j u hh => new_cells w [.int .i64 4, .int .i64 (d : Int), .int .i64 (e : Int), .int .i64 pr, .int .i64 ln, .int .i64 ix, .int .i64 cl, .bool pm, .bool up] 45 j u hh
  have c0 := nc 0 _ rfl
  have c1 := nc 1 _ rfl
  have c2 := nc 2 _ rfl
  have c8 := nc 8 _ rfl
  simp only [Addr.add_mid, Nat.zero_add] at c0 c1 c2 c8
  clear nc
  have HX := hide (h.new ((Ex.refl _ w).alloc (.cells #[.int .i64 4, .int .i64 (d : Int), .int .i64 (e : Int), .int .i64 pr, .int .i64 ln, .int .i64 ix, .int .i64 cl, .bool pm, .bool up] 45)))
  have HE : Hid (Ex (fun _ => False) w (w.alloc (.cells #[.int .i64 4, .int .i64 (d : Int), .int .i64 (e : Int), .int .i64 pr, .int .i64 ln, .int .i64 ix, .int .i64 cl, .bool pm, .bool up] 45))) := (Ex.refl _ w).alloc _
  have hbw : b < w.heap.size := World.block_lt_of_cell? _ _ (h.ma.r 0 (by omega))
  have hdi : (d : Int) < 16 := by omega
  have hei : (e : Int) < 16 := by omega
  clear h
  unfold chV
  simp only []
  go_enter Try.func71, Try.ntmps71
  go_upto_region 1 with fail
  generalize w.alloc (.cells #[.int .i64 4, .int .i64 (d : Int), .int .i64 (e : Int), .int .i64 pr, .int .i64 ln, .int .i64 ix, .int .i64 cl, .bool pm, .bool up] 45) = W at *
  obtain ⟨r, hr⟩ : ∃ r, w.heap.size = r := ⟨_, rfl⟩
  rw [hr] at c0 c1 c2 c8 hbw ⊢
  clear hr
  have hrb : r ≠ b := by omega
  have u0 := HX.out.ma.l d e hd he
  have fz := HX.out.fz
  rw [Nat.zero_add, ← Nat.add_assoc] at u0
  have HY := hide (HX.out.setK hd he up)
  rw [Nat.zero_add, ← Nat.add_assoc] at HY
  have HEY : Hid (Ex (MFt b vr va) w (W.setCell ⟨b, 48 + d * 16 + e, none⟩ (.bool up)).drew) := ((HE.out.mono (fun _ z => z.elim)).set (p := b) (.inl rfl) _).drew
  have x2 : ((W.setCell ⟨b, 48 + d * 16 + e, none⟩ (.bool up)).drew).cell? ⟨r, 2, none⟩ = some (.int .i64 (e : Int)) := (set_cell_ne _ _ _ _ _ _ hrb).trans c2
  have x8 : ((W.setCell ⟨b, 48 + d * 16 + e, none⟩ (.bool up)).drew).cell? ⟨r, 8, none⟩ = some (.bool up) := (set_cell_ne _ _ _ _ _ _ hrb).trans c8
  go_upto_region 45 with fail
  go_region
  have HZ := hide (HY.out.new ((Ex.refl (fun _ => False) _).drew))
  generalize (W.setCell ⟨b, 48 + d * 16 + e, none⟩ (.bool up)).drew = W2 at *
  clear c0 c1 c2 c8 u0 fz HX HY HE
  have u1 := HZ.out.ma.l e d he hd
  have fz := HZ.out.fz
  rw [Nat.zero_add, ← Nat.add_assoc] at u1
  have HV := hide (HZ.out.setK he hd up)
  rw [Nat.zero_add, ← Nat.add_assoc] at HV
  have HEV : Hid (Ex (MFt b vr va) w (W2.setCell ⟨b, 48 + e * 16 + d, none⟩ (.bool up)).drew) := (HEY.out.set (p := b) (.inl rfl) _).drew
  go_upto_region 46 with fail
  go_region
  have HU := hide (HV.out.new ((Ex.refl (fun _ => False) _).drew))
  go_wp2
  go_ret
  exact ⟨rfl, HEV.out, vr, va, HU.out, fun k hk => .inl hk⟩
end Go.Proofs.Qxb6500778a
