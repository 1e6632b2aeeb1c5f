import Derived.Test.Qxb6500778aNE
import Derived.Test.Qxb6500778aP4
namespace Go.Proofs.Qxb6500778a
open Go.RowKit

/-! ### The session -/
structure Sn where
  N : Nat → Dv
  st : List Chg
  uid : Int
  us : List Chg
  cu : Bool
/-- A session in block s, its network in block b. -/
structure SS (w : World) (s b : Nat) (x : Sn) (vr va : Nat → Value) (sv uv : Value) : Prop where
  c0 : w.cell? ⟨s, 0, none⟩ = some (.pointer (some ⟨b, 0, none⟩))
  c1 : w.cell? ⟨s, 1, none⟩ = some sv
  c2 : w.cell? ⟨s, 2, none⟩ = some (.int .i64 x.uid)
  c3 : w.cell? ⟨s, 3, none⟩ = some uv
  c4 : w.cell? ⟨s, 4, none⟩ = some (.bool x.cu)
  fz : ∀ j, w.frozen? ⟨s, j, none⟩ = false
  na : NA w b x.N vr va
  ok : NetOk x.N
  st : w.ownsRow (s + 1) 45 9 sv x.st.length (flatC x.st)
  us : w.ownsRow (s + 1) 45 9 uv x.us.length (flatC x.us)
  bs : b < s
  sf : ¬ Foot b vr va s
  tf : ∀ k, sv.ownBlock = some k → ¬ Foot b vr va k
  uf : ∀ k, uv.ownBlock = some k → ¬ Foot b vr va k
  tu : ∀ k, sv.ownBlock = some k → uv.ownBlock ≠ some k
  ul : x.us.length ≤ 128
section
variable {w w' : World} {s b : Nat} {x : Sn} {vr va vr' va' : Nat → Value} {sv uv : Value}
theorem SS.lt (h : SS w s b x vr va sv uv) : s < w.heap.size := World.block_lt_of_cell? _ _ h.c0
theorem SS.keep (h : SS w s b x vr va sv uv) {S : Nat → Prop} (e : Ex S w w') (hs : ¬ S s) (hf : ∀ k, Foot b vr va k → ¬ S k) (ht : ∀ k, sv.ownBlock = some k → ¬ S k) (hu : ∀ k, uv.ownBlock = some k → ¬ S k) : SS w' s b x vr va sv uv :=
  ⟨e.cell hs h.c0, e.cell hs h.c1, e.cell hs h.c2, e.cell hs h.c3, e.cell hs h.c4, fun j => (e.frozen hs h.lt).trans (h.fz j), h.na.keep e hf, h.ok, own_kept h.st e ht, own_kept h.us e hu, h.bs, h.sf, h.tf, h.uf, h.tu, h.ul⟩
theorem SS.new (h : SS w s b x vr va sv uv) (e : Ex (fun _ => False) w w') : SS w' s b x vr va sv uv := h.keep e (fun e => e) (fun _ _ e => e) (fun _ _ e => e) (fun _ _ e => e)
/-- the network was turned -/
theorem SS.net (h : SS w s b x vr va sv uv) {N' : Nat → Dv} (ok' : NetOk N') (na' : NA w' b N' vr' va') (e : Ex (fun k => k = b) w w') (hf : ∀ k, Foot b vr' va' k → Foot b vr va k ∨ w.heap.size ≤ k) : SS w' s b { x with N := N' } vr' va' sv uv := by
  have hb := h.bs
  have hs : ¬ s = b := by omega
  have nf : ∀ k, k < w.heap.size → ¬ Foot b vr va k → ¬ Foot b vr' va' k := fun k hk h1 h2 => by
    rcases hf k h2 with z | z
    · exact h1 z
    · omega
  exact ⟨e.cell hs h.c0, e.cell hs h.c1, e.cell hs h.c2, e.cell hs h.c3, e.cell hs h.c4, fun j => (e.frozen hs h.lt).trans (h.fz j), na', ok', own_kept h.st e (fun k hk (x : k = b) => h.tf k hk (.inl x)), own_kept h.us e (fun k hk (x : k = b) => h.uf k hk (.inl x)), hb, nf s h.lt h.sf, fun k hk => nf k (h.st.lt k hk).2 (h.tf k hk), fun k hk => nf k (h.us.lt k hk).2 (h.uf k hk), h.tu, h.ul⟩
/-- cells of the session are set -/
theorem SS.put4 (h : SS w s b x vr va sv uv) (y : Bool) : SS (w.setCell ⟨s, 4, none⟩ (.bool y)) s b { x with cu := y } vr va sv uv := by
  have e : Ex (fun k => k = s) w (w.setCell ⟨s, 4, none⟩ (.bool y)) := (Ex.refl (fun k => k = s) w).set (p := s) rfl _
  have hc := h.c4
  refine ⟨?_, ?_, ?_, ?_, World.cell?_setCell_same _ _ _ hc, fun j => by rw [set_frozen]; exact h.fz j, h.na.keep e (fun k hk (z : k = s) => h.sf (by rw [← z]; exact hk)), h.ok, own_kept h.st e (fun k hk (z : k = s) => by have := (h.st.lt k hk).1; omega), own_kept h.us e (fun k hk (z : k = s) => by have := (h.us.lt k hk).1; omega), h.bs, h.sf, h.tf, h.uf, h.tu, h.ul⟩
  · rw [set_at _ _ _ _ _ _ hc, if_neg (by omega)]; exact h.c0
  · rw [set_at _ _ _ _ _ _ hc, if_neg (by omega)]; exact h.c1
  · rw [set_at _ _ _ _ _ _ hc, if_neg (by omega)]; exact h.c2
  · rw [set_at _ _ _ _ _ _ hc, if_neg (by omega)]; exact h.c3
theorem SS.put23 (h : SS w s b x vr va sv uv) (i : Int) (iv : Value) (U : List Chg) (ho : w.ownsRow (s + 1) 45 9 iv U.length (flatC U)) (hf : ∀ k, iv.ownBlock = some k → ¬ Foot b vr va k) (ht : ∀ k, sv.ownBlock = some k → iv.ownBlock ≠ some k) (hl : U.length ≤ 128) : SS ((w.setCell ⟨s, 2, none⟩ (.int .i64 i)).setCell ⟨s, 3, none⟩ iv) s b { x with uid := i, us := U } vr va sv iv := by
  have e : Ex (fun k => k = s) w ((w.setCell ⟨s, 2, none⟩ (.int .i64 i)).setCell ⟨s, 3, none⟩ iv) := ((Ex.refl (fun k => k = s) w).set (p := s) rfl _).set (p := s) rfl _
  have hc := h.c2
  have hd : (w.setCell ⟨s, 2, none⟩ (.int .i64 i)).cell? ⟨s, 3, none⟩ = some uv := by rw [set_at _ _ _ _ _ _ hc, if_neg (by omega)]; exact h.c3
  refine ⟨?_, ?_, ?_, World.cell?_setCell_same _ _ _ hd, ?_, fun j => by rw [set_frozen, set_frozen]; exact h.fz j, h.na.keep e (fun k hk (z : k = s) => h.sf (by rw [← z]; exact hk)), h.ok, own_kept h.st e (fun k hk (z : k = s) => by have := (h.st.lt k hk).1; omega), own_kept ho e (fun k hk (z : k = s) => by have := (ho.lt k hk).1; omega), h.bs, h.sf, h.tf, hf, ht, hl⟩
  · rw [set_at _ _ _ _ _ _ hd, if_neg (by omega), set_at _ _ _ _ _ _ hc, if_neg (by omega)]; exact h.c0
  · rw [set_at _ _ _ _ _ _ hd, if_neg (by omega), set_at _ _ _ _ _ _ hc, if_neg (by omega)]; exact h.c1
  · rw [set_at _ _ _ _ _ _ hd, if_neg (by omega), set_at _ _ _ _ _ _ hc, if_pos rfl]
  · rw [set_at _ _ _ _ _ _ hd, if_neg (by omega), set_at _ _ _ _ _ _ hc, if_neg (by omega)]; exact h.c4
end
theorem ok_zero : NetOk (fun _ => dv0) := fun d _ => ⟨List.Pairwise.nil, (by show 0 + 0 ≤ 64; decide), fun r hr => (by cases hr), fun r hr => (by cases hr)⟩
def sn0 : Sn := ⟨fun _ => dv0, [], 0, [], false⟩
set_option maxRecDepth 100000 in
/-- newSession -/
theorem newSession_any (w : World) : Calls Try.prog 9 #[] w fun e w' => e = .returned (.pointer (some ⟨w.heap.size + 1, 0, none⟩)) ∧ Ex (fun _ => False) w w' ∧ SS w' (w.heap.size + 1) w.heap.size sn0 (fun _ => .slice none 0 0) (fun _ => .slice none 0 0) (.slice none 0 0) (.slice none 0 0) := by
  obtain ⟨W, hW⟩ : ∃ W, W = (w.alloc (.cells #[.slice none 0 0, .slice none 0 0, .bool false, .int .u16 0, .slice none 0 0, .slice none 0 0, .bool false, .int .u16 0, .slice none 0 0, .slice none 0 0, .bool false, .int .u16 0, .slice none 0 0, .slice none 0 0, .bool false, .int .u16 0, .slice none 0 0, .slice none 0 0, .bool false, .int .u16 0, .slice none 0 0, .slice none 0 0, .bool false, .int .u16 0, .slice none 0 0, .slice none 0 0, .bool false, .int .u16 0, .slice none 0 0, .slice none 0 0, .bool false, .int .u16 0, .slice none 0 0, .slice none 0 0, .bool false, .int .u16 0, .slice none 0 0, .slice none 0 0, .bool false, .int .u16 0, .slice none 0 0, .slice none 0 0, .bool false, .int .u16 0, .slice none 0 0, .slice none 0 0, .bool false, .int .u16 0, .slice none 0 0, .slice none 0 0, .bool false, .int .u16 0, .slice none 0 0, .slice none 0 0, .bool false, .int .u16 0, .slice none 0 0, .slice none 0 0, .bool false, .int .u16 0, .slice none 0 0, .slice none 0 0, .bool false, .int .u16 0] 71)).alloc (.cells #[.pointer (some ⟨w.heap.size, 0, none⟩), .slice none 0 0, .int .i64 0, .slice none 0 0, .bool false] 54) := ⟨_, rfl⟩
  have HE : Hid (Ex (fun _ => False) w W) := by rw [hW]; exact ((Ex.refl _ w).alloc _).alloc _
  have nd := fun j u h => new_cells (w.alloc (.cells #[.slice none 0 0, .slice none 0 0, .bool false, .int .u16 0, .slice none 0 0, .slice none 0 0, .bool false, .int .u16 0, .slice none 0 0, .slice none 0 0, .bool false, .int .u16 0, .slice none 0 0, .slice none 0 0, .bool false, .int .u16 0, .slice none 0 0, .slice none 0 0, .bool false, .int .u16 0, .slice none 0 0, .slice none 0 0, .bool false, .int .u16 0, .slice none 0 0, .slice none 0 0, .bool false, .int .u16 0, .slice none 0 0, .slice none 0 0, .bool false, .int .u16 0, .slice none 0 0, .slice none 0 0, .bool false, .int .u16 0, .slice none 0 0, .slice none 0 0, .bool false, .int .u16 0, .slice none 0 0, .slice none 0 0, .bool false, .int .u16 0, .slice none 0 0, .slice none 0 0, .bool false, .int .u16 0, .slice none 0 0, .slice none 0 0, .bool false, .int .u16 0, .slice none 0 0, .slice none 0 0, .bool false, .int .u16 0, .slice none 0 0, .slice none 0 0, .bool false, .int .u16 0, .slice none 0 0, .slice none 0 0, .bool false, .int .u16 0] 71)) [.pointer (some ⟨w.heap.size, 0, none⟩), .slice none 0 0, .int .i64 0, .slice none 0 0, .bool false] 54 j u h
  have d0 := nd 0 _ rfl
  have d1 := nd 1 _ rfl
  have d2 := nd 2 _ rfl
  have d3 := nd 3 _ rfl
  have d4 := nd 4 _ rfl
  rw [show (w.alloc (.cells #[.slice none 0 0, .slice none 0 0, .bool false, .int .u16 0, .slice none 0 0, .slice none 0 0, .bool false, .int .u16 0, .slice none 0 0, .slice none 0 0, .bool false, .int .u16 0, .slice none 0 0, .slice none 0 0, .bool false, .int .u16 0, .slice none 0 0, .slice none 0 0, .bool false, .int .u16 0, .slice none 0 0, .slice none 0 0, .bool false, .int .u16 0, .slice none 0 0, .slice none 0 0, .bool false, .int .u16 0, .slice none 0 0, .slice none 0 0, .bool false, .int .u16 0, .slice none 0 0, .slice none 0 0, .bool false, .int .u16 0, .slice none 0 0, .slice none 0 0, .bool false, .int .u16 0, .slice none 0 0, .slice none 0 0, .bool false, .int .u16 0, .slice none 0 0, .slice none 0 0, .bool false, .int .u16 0, .slice none 0 0, .slice none 0 0, .bool false, .int .u16 0, .slice none 0 0, .slice none 0 0, .bool false, .int .u16 0, .slice none 0 0, .slice none 0 0, .bool false, .int .u16 0, .slice none 0 0, .slice none 0 0, .bool false, .int .u16 0] 71)).heap.size = w.heap.size + 1 by simp] at d0 d1 d2 d3 d4
  simp only [Addr.add_mid, Nat.zero_add] at d0 d1 d2 d3 d4
  have HS : Hid (SS W (w.heap.size + 1) w.heap.size sn0 (fun _ => .slice none 0 0) (fun _ => .slice none 0 0) (.slice none 0 0) (.slice none 0 0)) := by
    have hz := (na_zero w 71).new ((Ex.refl _ _).alloc (.cells #[.pointer (some ⟨w.heap.size, 0, none⟩), .slice none 0 0, .int .i64 0, .slice none 0 0, .bool false] 54))
    rw [show zc64.toArray = #[.slice none 0 0, .slice none 0 0, .bool false, .int .u16 0, .slice none 0 0, .slice none 0 0, .bool false, .int .u16 0, .slice none 0 0, .slice none 0 0, .bool false, .int .u16 0, .slice none 0 0, .slice none 0 0, .bool false, .int .u16 0, .slice none 0 0, .slice none 0 0, .bool false, .int .u16 0, .slice none 0 0, .slice none 0 0, .bool false, .int .u16 0, .slice none 0 0, .slice none 0 0, .bool false, .int .u16 0, .slice none 0 0, .slice none 0 0, .bool false, .int .u16 0, .slice none 0 0, .slice none 0 0, .bool false, .int .u16 0, .slice none 0 0, .slice none 0 0, .bool false, .int .u16 0, .slice none 0 0, .slice none 0 0, .bool false, .int .u16 0, .slice none 0 0, .slice none 0 0, .bool false, .int .u16 0, .slice none 0 0, .slice none 0 0, .bool false, .int .u16 0, .slice none 0 0, .slice none 0 0, .bool false, .int .u16 0, .slice none 0 0, .slice none 0 0, .bool false, .int .u16 0, .slice none 0 0, .slice none 0 0, .bool false, .int .u16 0] from rfl] at hz
    rw [hW]
    refine ⟨d0, d1, d2, d3, d4, fun j => by simp [go_sem], hz, ok_zero, World.ownsRow_nil _ _ _ _, World.ownsRow_nil _ _ _ _, by omega, fun hk => ?_, fun k hk => (by cases hk), fun k hk => (by cases hk), fun k hk => (by cases hk), (by decide)⟩
    rcases hk with hk | ⟨d, _, hk | hk⟩
    · omega
    · cases hk
    · cases hk
  clear nd d0 d1 d2 d3 d4
  go_enter Try.func9, Try.ntmps9
  go_wp2
  rw [← hW]
  go_ret
  exact ⟨rfl, HE.out, HS.out⟩
end Go.Proofs.Qxb6500778a
