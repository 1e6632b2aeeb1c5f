import Derived.Test.Qxb6500778aS2
import Derived.Test.Qxb6500778aS3
namespace Go.Proofs.Qxb6500778a
open Go.RowKit

def TPost (w : World) (s b : Nat) (vr va : Nat → Value) (sv uv : Value) (F : Nat → Prop) (x' : Sn) (v : Value) (e : Ending) (w' : World) : Prop :=
  e = .returned v ∧ Ex (fun k => k = s ∨ k = b ∨ F k) w w' ∧ ∃ vr' va' sv' uv', SS w' s b x' vr' va' sv' uv' ∧ (∀ k, Foot b vr' va' k → Foot b vr va k ∨ w.heap.size ≤ k) ∧ (∀ k, sv'.ownBlock = some k → sv.ownBlock = some k ∨ w.heap.size ≤ k) ∧ (∀ k, uv'.ownBlock = some k → uv.ownBlock = some k ∨ w.heap.size ≤ k)
theorem SS.r1 {w : World} {s b : Nat} {x : Sn} {vr va : Nat → Value} {sv uv : Value} (h : SS w s b x vr va sv uv) {r : Nat} (hs : ¬ s = r) (hf : ∀ k, Foot b vr va k → ¬ k = r) (ht : ∀ k, sv.ownBlock = some k → ¬ k = r) (hu : ∀ k, uv.ownBlock = some k → ¬ k = r) (y0 y1 y2 : Value) : SS (((w.setCell ⟨r, 0, none⟩ y0).setCell ⟨r, 1, none⟩ y1).setCell ⟨r, 2, none⟩ y2) s b x vr va sv uv :=
  h.keep ((((Ex.refl (fun k => k = r) w).set (p := r) rfl y0).set (p := r) rfl y1).set (p := r) rfl y2) hs hf ht hu
/-- A step of a session begins: its box r0, its result r1. -/
structure SB (w W : World) (s b : Nat) (x : Sn) (vr va : Nat → Value) (sv uv : Value) (r0 r1 : Nat) : Prop where
  ss : SS W s b x vr va sv uv
  ex : Ex (fun _ => False) w W
  d0 : W.cell? ⟨r1, 0, none⟩ = some (.int .i64 0)
  d1 : W.cell? ⟨r1, 1, none⟩ = some (.int .i64 0)
  d2 : W.cell? ⟨r1, 2, none⟩ = some (.string ⟨#[]⟩)
  df : ∀ j, W.frozen? ⟨r1, j, none⟩ = false
  h0 : w.heap.size = r0
  h1 : w.heap.size + 1 = r1
  fl : ∀ k, Foot b vr va k → k < w.heap.size
  tl : ∀ k, sv.ownBlock = some k → k < w.heap.size
  ul : ∀ k, uv.ownBlock = some k → k < w.heap.size
  sl : s < w.heap.size
theorem sb_new {w : World} {s b : Nat} {x : Sn} {vr va : Nat → Value} {sv uv : Value} (h : SS w s b x vr va sv uv) (o : Obj) : SB w ((w.alloc o).alloc (.cells #[.int .i64 0, .int .i64 0, .string ⟨#[]⟩] 40)) s b x vr va sv uv w.heap.size (w.heap.size + 1) := by
  have nd := fun j u h => new_cells (w.alloc o) [.int .i64 0, .int .i64 0, .string ⟨#[]⟩] 40 j u h
  have d0 := nd 0 _ rfl
  have d1 := nd 1 _ rfl
  have d2 := nd 2 _ rfl
  rw [show (w.alloc o).heap.size = w.heap.size + 1 by simp] at d0 d1 d2
  exact ⟨h.new (((Ex.refl _ w).alloc _).alloc _), ((Ex.refl _ w).alloc _).alloc _, d0, d1, d2, fun j => by simp [go_sem], rfl, rfl, fun k hk => h.na.foot_lt hk, fun k hk => (h.st.lt k hk).2, fun k hk => (h.us.lt k hk).2, h.lt⟩
set_option linter.unusedSimpArgs false in
set_option maxRecDepth 100000 in
set_option maxHeartbeats 16000000 in
theorem step_other (w : World) (s b : Nat) (x : Sn) (vr va : Nat → Value) (sv uv : Value) (kd : Int) (a : Int) (c : Chg) (da : Option Addr) (s_ : List Int) (cp : Nat) (h : SS w s b x vr va sv uv) (hk : kd < 0 ∨ 4 < kd) :
    Calls Try.prog 10 #[.pointer (some ⟨s, 0, none⟩), .agg #[.int .i64 kd, .int .i64 a, .int .i64 c.kd, .int .i64 c.dv, .int .i64 c.hp, .int .i64 c.pr, .int .i64 c.ln, .int .i64 c.ix, .int .i64 c.cl, .bool c.pm, .bool c.up, .slice da s_.length cp]] w (TPost w s b vr va sv uv (fun _ => False) (x) (ansV 0 0 ⟨#[]⟩)) := by
  obtain ⟨W, hW⟩ : ∃ W, W = (w.alloc (.cells #[.int .i64 kd, .int .i64 a, .int .i64 c.kd, .int .i64 c.dv, .int .i64 c.hp, .int .i64 c.pr, .int .i64 c.ln, .int .i64 c.ix, .int .i64 c.cl, .bool c.pm, .bool c.up, .slice da s_.length cp] 48)).alloc (.cells #[.int .i64 0, .int .i64 0, .string ⟨#[]⟩] 40) := ⟨_, rfl⟩
  have HB : Hid (SB w W s b x vr va sv uv w.heap.size (w.heap.size + 1)) := by rw [hW]; exact sb_new h _
  have HBX : Hid (∀ j u, (#[.int .i64 kd, .int .i64 a, .int .i64 c.kd, .int .i64 c.dv, .int .i64 c.hp, .int .i64 c.pr, .int .i64 c.ln, .int .i64 c.ix, .int .i64 c.cl, .bool c.pm, .bool c.up, .slice da s_.length cp].toList)[j]? = some u → W.cell? ⟨w.heap.size, j, none⟩ = some u) := fun j u hj => by
    have h1 := new_cells w [.int .i64 kd, .int .i64 a, .int .i64 c.kd, .int .i64 c.dv, .int .i64 c.hp, .int .i64 c.pr, .int .i64 c.ln, .int .i64 c.ix, .int .i64 c.cl, .bool c.pm, .bool c.up, .slice da s_.length cp] 48 j u hj
    rw [Addr.add_mid, Nat.zero_add] at h1
    rw [hW]
    exact ((Ex.refl (fun _ => False) _).alloc _).cell (fun e => e) h1
  go_enter Try.func10, Try.ntmps10
  go_upto_region 1 with fail
  rw [← hW]
  clear hW h
  obtain ⟨r1, hr1⟩ : ∃ r, w.heap.size + 1 = r := ⟨_, rfl⟩
  rw [hr1] at HB ⊢
  obtain ⟨r0, hr0⟩ : ∃ r, w.heap.size = r := ⟨_, rfl⟩
  rw [hr0] at HB HBX ⊢
  clear hr0 hr1
  have k0 := HBX.out 0 _ rfl
  have e0 : (kd == 0) = false := by simp only [beq_eq_false_iff_ne]; omega
  have e1 : (kd == 1) = false := by simp only [beq_eq_false_iff_ne]; omega
  have e2 : (kd == 2) = false := by simp only [beq_eq_false_iff_ne]; omega
  have e3 : (kd == 3) = false := by simp only [beq_eq_false_iff_ne]; omega
  have e4 : (kd == 4) = false := by simp only [beq_eq_false_iff_ne]; omega
  clear hk
  have hr1w : w.heap.size ≤ r1 := by have := HB.out.h1; omega
  have n_s : ¬ s = r1 := by have := HB.out.sl; omega
  have n_f : ∀ k, Foot b vr va k → ¬ k = r1 := fun k hk z => by have := HB.out.fl k hk; omega
  have n_t : ∀ k, sv.ownBlock = some k → ¬ k = r1 := fun k hk z => by have := HB.out.tl k hk; omega
  have n_u : ∀ k, uv.ownBlock = some k → ¬ k = r1 := fun k hk z => by have := HB.out.ul k hk; omega
  have g0 := HB.out.d0
  have g1 := HB.out.d1
  have g2 := HB.out.d2
  have gf := HB.out.df
  have HS := hide HB.out.ss
  have HE : Hid (Ex (fun k => k = s ∨ k = b ∨ False) w W) := HB.out.ex.mono (fun _ z => z.elim)
  go_wp2
  refine bodyPost_ret (v := ansV 0 0 ⟨#[]⟩) (by simp [results, Try.results10, go_sem, ansV, g0, g1, g2]) rfl ⟨rfl, ((HE.out.setNew (p := r1) hr1w _).setNew (p := r1) hr1w _).setNew (p := r1) hr1w _, vr, va, sv, uv, HS.out.r1 n_s n_f n_t n_u _ _ _, fun k hk => .inl hk, fun k hk => .inl hk, fun k hk => .inl hk⟩
set_option linter.unusedSimpArgs false in
set_option maxRecDepth 100000 in
set_option maxHeartbeats 16000000 in
theorem step_undo0 (w : World) (s b : Nat) (x : Sn) (vr va : Nat → Value) (sv uv : Value) (a : Int) (c : Chg) (da : Option Addr) (s_ : List Int) (cp : Nat) (h : SS w s b x vr va sv uv) (hcu : x.cu = false) :
    Calls Try.prog 10 #[.pointer (some ⟨s, 0, none⟩), .agg #[.int .i64 4, .int .i64 a, .int .i64 c.kd, .int .i64 c.dv, .int .i64 c.hp, .int .i64 c.pr, .int .i64 c.ln, .int .i64 c.ix, .int .i64 c.cl, .bool c.pm, .bool c.up, .slice da s_.length cp]] w (TPost w s b vr va sv uv (fun _ => False) (x) (ansV 9 0 ⟨#[]⟩)) := by
  obtain ⟨W, hW⟩ : ∃ W, W = (w.alloc (.cells #[.int .i64 4, .int .i64 a, .int .i64 c.kd, .int .i64 c.dv, .int .i64 c.hp, .int .i64 c.pr, .int .i64 c.ln, .int .i64 c.ix, .int .i64 c.cl, .bool c.pm, .bool c.up, .slice da s_.length cp] 48)).alloc (.cells #[.int .i64 0, .int .i64 0, .string ⟨#[]⟩] 40) := ⟨_, rfl⟩
  have HB : Hid (SB w W s b x vr va sv uv w.heap.size (w.heap.size + 1)) := by rw [hW]; exact sb_new h _
  have HBX : Hid (∀ j u, (#[.int .i64 4, .int .i64 a, .int .i64 c.kd, .int .i64 c.dv, .int .i64 c.hp, .int .i64 c.pr, .int .i64 c.ln, .int .i64 c.ix, .int .i64 c.cl, .bool c.pm, .bool c.up, .slice da s_.length cp].toList)[j]? = some u → W.cell? ⟨w.heap.size, j, none⟩ = some u) := fun j u hj => by
    have h1 := new_cells w [.int .i64 4, .int .i64 a, .int .i64 c.kd, .int .i64 c.dv, .int .i64 c.hp, .int .i64 c.pr, .int .i64 c.ln, .int .i64 c.ix, .int .i64 c.cl, .bool c.pm, .bool c.up, .slice da s_.length cp] 48 j u hj
    rw [Addr.add_mid, Nat.zero_add] at h1
    rw [hW]
    exact ((Ex.refl (fun _ => False) _).alloc _).cell (fun e => e) h1
  go_enter Try.func10, Try.ntmps10
  go_upto_region 1 with fail
  rw [← hW]
  clear hW h
  obtain ⟨r1, hr1⟩ : ∃ r, w.heap.size + 1 = r := ⟨_, rfl⟩
  rw [hr1] at HB ⊢
  obtain ⟨r0, hr0⟩ : ∃ r, w.heap.size = r := ⟨_, rfl⟩
  rw [hr0] at HB HBX ⊢
  clear hr0 hr1
  have k0 := HBX.out 0 _ rfl
  have hr1w : w.heap.size ≤ r1 := by have := HB.out.h1; omega
  have n_s : ¬ s = r1 := by have := HB.out.sl; omega
  have n_f : ∀ k, Foot b vr va k → ¬ k = r1 := fun k hk z => by have := HB.out.fl k hk; omega
  have n_t : ∀ k, sv.ownBlock = some k → ¬ k = r1 := fun k hk z => by have := HB.out.tl k hk; omega
  have n_u : ∀ k, uv.ownBlock = some k → ¬ k = r1 := fun k hk z => by have := HB.out.ul k hk; omega
  have g0 := HB.out.d0
  have g1 := HB.out.d1
  have g2 := HB.out.d2
  have gf := HB.out.df
  have HS := hide HB.out.ss
  have HE : Hid (Ex (fun k => k = s ∨ k = b ∨ False) w W) := HB.out.ex.mono (fun _ z => z.elim)
  have k4 := HB.out.ss.c4
  rw [hcu] at k4
  go_wp2
  refine bodyPost_ret (v := ansV 9 0 ⟨#[]⟩) (by simp [results, Try.results10, go_sem, ansV, g0, g1, g2]) rfl ⟨rfl, ((HE.out.setNew (p := r1) hr1w _).setNew (p := r1) hr1w _).setNew (p := r1) hr1w _, vr, va, sv, uv, HS.out.r1 n_s n_f n_t n_u _ _ _, fun k hk => .inl hk, fun k hk => .inl hk, fun k hk => .inl hk⟩
end Go.Proofs.Qxb6500778a
