import Derived.Test.Qxb6500778aNK
namespace Go.Proofs.Qxb6500778a
open Go.RowKit

theorem runL_err : ∀ (C : List Chg) (N : Nat → Dv) (i : Nat) (U : List Chg), (runL N C i U).2.2.1 ≠ 0 → (runL N C i U).2.1 = []
  | [], N, i, U, h => absurd rfl h
  | c :: C, N, i, U, h => by
    rw [runL] at h ⊢
    split
    · rename_i h0
      rw [if_pos h0] at h
      exact runL_err C _ _ _ h
    · rfl
theorem runP_err {N : Nat → Dv} {id : Int} {C : List Chg} (h : (runP N id C).2.2.1 ≠ 0) : (runP N id C).2.1 = [] := by
  unfold runP at h ⊢
  split
  · rename_i h0
    rw [if_pos h0] at h
    exact runL_err C N 0 [] h
  · rfl
def InvPost (w : World) (id er at_ : Int) (U : List Chg) (e : Ending) (w' : World) : Prop :=
  ∃ uv, e = .returned (.tuple #[.agg #[.int .i64 id, uv], .int .i64 er, .int .i64 at_]) ∧ Ex (fun _ => False) w w' ∧ w'.ownsRow w.heap.size 45 9 uv U.length (flatC U)
set_option linter.unusedSimpArgs false in
set_option maxRecDepth 100000 in
set_option maxHeartbeats 8000000 in
/-- Inverse -/
theorem inverse_any (w : World) (b B0 : Nat) (N : Nat → Dv) (vr va : Nat → Value) (id : Int) (v : Value) (C : List Chg) (hn : NA w b N vr va) (hok : NetOk N) (ho : w.ownsRow B0 45 9 v C.length (flatC C)) (hlen : C.length ≤ 1099511627776) :
    Calls Try.prog 18 #[.pointer (some ⟨b, 0, none⟩), .agg #[.int .i64 id, v]] w (InvPost w (if (runP N id C).2.2.1 = 0 then id else 0) (runP N id C).2.2.1 (runP N id C).2.2.2 (runP N id C).2.1) := by
  obtain ⟨sa, sc, rfl⟩ := own_len ho
  obtain ⟨W, hW⟩ : ∃ W, W = (w.alloc (.cells #[.int .i64 id, .slice sa C.length sc] 52)).alloc (.cells #[.int .i64 0, .slice none 0 0] 52) := ⟨_, rfl⟩
  have HE : Hid (Ex (fun _ => False) w W) := by rw [hW]; exact ((Ex.refl _ w).alloc _).alloc _
  have HRU := hide (run_any W b B0 N vr va id (.slice sa C.length sc) C (hn.new HE.out) hok (by rw [hW]; exact (ho.alloc _).alloc _) hlen)
  have nc := fun j u h => new_cells w [.int .i64 id, .slice sa C.length sc] 52 j u h
  have nd := fun j u h => new_cells (w.alloc (.cells #[.int .i64 id, .slice sa C.length sc] 52)) [.int .i64 0, .slice none 0 0] 52 j u h
  have c0 := nc 0 _ rfl
  have c1 := nc 1 _ rfl
  have e0 := nd 0 _ rfl
  have e1 := nd 1 _ rfl
  rw [show (w.alloc (.cells #[.int .i64 id, .slice sa C.length sc] 52)).heap.size = w.heap.size + 1 by simp] at e0 e1
  simp only [Addr.add_mid, Nat.zero_add] at c0 c1 e0 e1
  have HC0 : Hid (W.cell? ⟨w.heap.size, 0, none⟩ = some (.int .i64 id)) := by rw [hW]; exact ((Ex.refl (fun _ => False) _).alloc _).cell (fun e => e) c0
  have HC1 : Hid (W.cell? ⟨w.heap.size, 1, none⟩ = some (.slice sa C.length sc)) := by rw [hW]; exact ((Ex.refl (fun _ => False) _).alloc _).cell (fun e => e) c1
  have HD0 : Hid (W.cell? ⟨w.heap.size + 1, 0, none⟩ = some (.int .i64 0)) := by rw [hW]; exact e0
  have HD1 : Hid (W.cell? ⟨w.heap.size + 1, 1, none⟩ = some (.slice none 0 0)) := by rw [hW]; exact e1
  have HDF : Hid (∀ j, W.frozen? ⟨w.heap.size + 1, j, none⟩ = false) := fun j => by rw [hW]; simp [go_sem]
  clear nc nd c0 c1 e0 e1 hn ho
  have HRE : Hid ((runP N id C).2.2.1 ≠ 0 → (runP N id C).2.1 = []) := runP_err
  obtain ⟨N2, U, er, at_, hR⟩ : ∃ a b c d, runP N id C = (a, b, c, d) := ⟨_, _, _, _, rfl⟩
  rw [hR] at HRU HRE ⊢
  simp only [] at HRE ⊢
  clear hR
  generalize C.length = n at *
  go_enter Try.func18, Try.ntmps18
  go_upto_region 1 with fail
  rw [← hW]
  clear hW
  obtain ⟨r1, hr1⟩ : ∃ r, w.heap.size + 1 = r := ⟨_, rfl⟩
  rw [hr1] at HD0 HD1 HDF ⊢
  obtain ⟨rb, hrb⟩ : ∃ r, w.heap.size = r := ⟨_, rfl⟩
  rw [hrb] at HC0 HC1 ⊢
  have HRB := hide hrb
  have HR1 := hide hr1
  clear hrb hr1
  have c0 := HC0.out
  have c1 := HC1.out
  go_wp2_with fail
  refine HRU.out.mono ?_
  rintro e W1 ⟨hex, ⟨hz, rfl⟩ | ⟨hz, hz2, b', ug, ur, ua, rfl, hbb, hna, hun, hfu⟩⟩
  · have HE1 := hide (HE.out.trans hex)
    simp only [] at hz
    have hzb : (er != 0) = true := by simp [hz]
    have f0 := hex.cell (fun e => e) HD0.out
    have f1 := hex.cell (fun e => e) HD1.out
    have hl1 : r1 < W.heap.size := World.block_lt_of_cell? _ _ HD0.out
    have ff := fun j => (hex.frozen (q := r1) (j := j) (fun e => e) hl1).trans (HDF.out j)
    clear hex HRU c0 c1
    go_wp2
    refine bodyPost_ret (v := .tuple #[.agg #[.int .i64 0, .slice none 0 0], .int .i64 er, .int .i64 at_]) (by simp [results, Try.results18, go_sem, f0, f1]) rfl ?_
    try rw [if_neg hz]
    refine ⟨_, rfl, (HE1.out.setNew (p := r1) (by have := HR1.out; omega) _).setNew (p := r1) (by have := HR1.out; omega) _, ?_⟩
    rw [HRE.out hz]
    exact World.ownsRow_nil _ _ _ _
  · simp only [] at hz hz2
    subst hz hz2
    have HE1 := hide (HE.out.trans hex)
    have f0 := hex.cell (fun e => e) HD0.out
    have f1 := hex.cell (fun e => e) HD1.out
    have hl1 : r1 < W.heap.size := World.block_lt_of_cell? _ _ HD0.out
    have ff := fun j => (hex.frozen (q := r1) (j := j) (fun e => e) hl1).trans (HDF.out j)
    have d0 := hex.cell (fun e => e) HC0.out
    have HUN := hide hun
    have HWS := HE.out.size
    clear hna hun hfu hex HRU c0 c1
    go_wp2
    refine bodyPost_ret (v := .tuple #[.agg #[.int .i64 id, .slice (some ⟨ug, 0, none⟩) n n], .int .i64 0, .int .i64 0]) (by simp [results, Try.results18, go_sem, f0, f1]) rfl ?_
    try rw [if_pos rfl]
    refine ⟨_, rfl, (HE1.out.setNew (p := r1) (by have := HR1.out; omega) _).setNew (p := r1) (by have := HR1.out; omega) _, ?_⟩
    have hu := HUN.out
    have hul : U.length = n := by
      have h1 := hu.1
      have h2 : (flatC U).length = U.length * 9 := flat_len Chg.vals 9 ch_len U
      omega
    rw [hul]
    refine own_low (own_kept hu (((Ex.refl (fun k => k = r1) W1).set (p := r1) (j := 0) rfl _).set (p := r1) (j := 1) rfl _) (fun k hk (x : k = r1) => ?_)) HWS
    have := (hu.lt k hk).1
    omega
end Go.Proofs.Qxb6500778a
