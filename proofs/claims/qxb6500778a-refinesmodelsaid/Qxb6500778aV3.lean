import Derived.Test.Qxb6500778aUL
import Derived.Test.Qxb6500778aV2
import Derived.Test.Qxb6500778aT4
namespace Go.Proofs.Qxb6500778a
open Go.RowKit

/-- A step of the model's session begins: its box r0, its result r1. -/
structure QB (w W : World) (s : Nat) (y : SM) (vr va ur ua : Nat → Value) (sv : Value) (r0 r1 : Nat) : Prop where
  ss : SQ W s y vr va ur ua sv
  ex : Ex (fun _ => False) w W
  d0 : W.cell? ⟨r1, 0, none⟩ = some (.int .i64 0)
  d1 : W.cell? ⟨r1, 1, none⟩ = some (.int .i64 0)
  d2 : W.cell? ⟨r1, 2, none⟩ = some (.string ⟨#[]⟩)
  df : ∀ j, W.frozen? ⟨r1, j, none⟩ = false
  h0 : w.heap.size = r0
  h1 : w.heap.size + 1 = r1
  nl : ∀ k, RIn vr va k → k < w.heap.size
  bl : ∀ k, RIn ur ua k → k < w.heap.size
  tl : ∀ k, sv.ownBlock = some k → k < w.heap.size
  sl : s < w.heap.size
theorem qb_new {w : World} {s : Nat} {y : SM} {vr va ur ua : Nat → Value} {sv : Value} (h : SQ w s y vr va ur ua sv) (o : Obj) : QB w ((w.alloc o).alloc (.cells #[.int .i64 0, .int .i64 0, .string ⟨#[]⟩] 40)) s y vr va ur ua sv w.heap.size (w.heap.size + 1) := by
  have nd := fun j u h => new_cells (w.alloc o) [.int .i64 0, .int .i64 0, .string ⟨#[]⟩] 40 j u h
  have d0 := nd 0 _ rfl
  have d1 := nd 1 _ rfl
  have d2 := nd 2 _ rfl
  rw [show (w.alloc o).heap.size = w.heap.size + 1 by simp] at d0 d1 d2
  exact ⟨h.new (((Ex.refl _ w).alloc _).alloc _), ((Ex.refl _ w).alloc _).alloc _, d0, d1, d2, fun j => by simp [go_sem], rfl, rfl, fun k hk => h.now.mv.rlt hk, fun k hk => h.bef.mv.rlt hk, fun k hk => (h.sto.lt k hk).2, h.lt⟩
theorem SQ.r1 {w : World} {s : Nat} {y : SM} {vr va ur ua : Nat → Value} {sv : Value} (h : SQ w s y vr va ur ua sv) {r : Nat} (hs : ¬ s = r) (hn : ∀ k, RIn vr va k → ¬ k = r) (hb : ∀ k, RIn ur ua k → ¬ k = r) (ht : ∀ k, sv.ownBlock = some k → ¬ k = r) (y0 y1 y2 : Value) : SQ (((w.setCell ⟨r, 0, none⟩ y0).setCell ⟨r, 1, none⟩ y1).setCell ⟨r, 2, none⟩ y2) s y vr va ur ua sv :=
  h.keep ((((Ex.refl (fun k => k = r) w).set (p := r) rfl y0).set (p := r) rfl y1).set (p := r) rfl y2) hs ht hn hb
set_option linter.unusedSimpArgs false in
set_option maxRecDepth 100000 in
set_option maxHeartbeats 16000000 in
theorem q_other (w : World) (s : Nat) (y : SM) (vr va ur ua : Nat → Value) (sv : Value) (kd : Int) (a : Int) (c : Chg) (da : Option Addr) (s_ : List Int) (cp : Nat) (h : SQ w s y vr va ur ua sv) (hk : kd < 0 ∨ 4 < kd) :
    Calls Try.prog 11 #[.pointer (some ⟨s, 0, none⟩), .agg #[.int .i64 kd, .int .i64 a, .int .i64 c.kd, .int .i64 c.dv, .int .i64 c.hp, .int .i64 c.pr, .int .i64 c.ln, .int .i64 c.ix, .int .i64 c.cl, .bool c.pm, .bool c.up, .slice da s_.length cp]] w (QPost w s vr va ur ua sv (fun _ => False) (y, ⟨0, 0, ⟨#[]⟩⟩)) := by
  obtain ⟨W, hW⟩ : ∃ W, W = (w.alloc (.cells #[.int .i64 kd, .int .i64 a, .int .i64 c.kd, .int .i64 c.dv, .int .i64 c.hp, .int .i64 c.pr, .int .i64 c.ln, .int .i64 c.ix, .int .i64 c.cl, .bool c.pm, .bool c.up, .slice da s_.length cp] 48)).alloc (.cells #[.int .i64 0, .int .i64 0, .string ⟨#[]⟩] 40) := ⟨_, rfl⟩
  have HB : Hid (QB w W s y vr va ur ua sv w.heap.size (w.heap.size + 1)) := by rw [hW]; exact qb_new h _
  have HBX : Hid (∀ j u, (#[.int .i64 kd, .int .i64 a, .int .i64 c.kd, .int .i64 c.dv, .int .i64 c.hp, .int .i64 c.pr, .int .i64 c.ln, .int .i64 c.ix, .int .i64 c.cl, .bool c.pm, .bool c.up, .slice da s_.length cp].toList)[j]? = some u → W.cell? ⟨w.heap.size, j, none⟩ = some u) := fun j u hj => by
    have h1 := new_cells w [.int .i64 kd, .int .i64 a, .int .i64 c.kd, .int .i64 c.dv, .int .i64 c.hp, .int .i64 c.pr, .int .i64 c.ln, .int .i64 c.ix, .int .i64 c.cl, .bool c.pm, .bool c.up, .slice da s_.length cp] 48 j u hj
    rw [Addr.add_mid, Nat.zero_add] at h1
    rw [hW]
    exact ((Ex.refl (fun _ => False) _).alloc _).cell (fun e => e) h1
  go_enter Try.func11, Try.ntmps11
  go_upto_region 1 with fail
  rw [← hW]
  clear hW h
  obtain ⟨r1, hr1⟩ : ∃ r, w.heap.size + 1 = r := ⟨_, rfl⟩
  rw [hr1] at HB ⊢
  obtain ⟨r0, hr0⟩ : ∃ r, w.heap.size = r := ⟨_, rfl⟩
  rw [hr0] at HB HBX ⊢
  clear hr0 hr1
  have k0 := HBX.out 0 _ rfl
  have e0 : (kd == 0) = false := by simp only [beq_eq_false_iff_ne]; omega
  have e1 : (kd == 1) = false := by simp only [beq_eq_false_iff_ne]; omega
  have e2 : (kd == 2) = false := by simp only [beq_eq_false_iff_ne]; omega
  have e3 : (kd == 3) = false := by simp only [beq_eq_false_iff_ne]; omega
  have e4 : (kd == 4) = false := by simp only [beq_eq_false_iff_ne]; omega
  clear hk
  have hr1w : w.heap.size ≤ r1 := by have := HB.out.h1; omega
  have n_s : ¬ s = r1 := by have := HB.out.sl; have := HB.out.h1; omega
  have n_n : ∀ k, RIn vr va k → ¬ k = r1 := fun k hk z => by have := HB.out.nl k hk; have := HB.out.h1; omega
  have n_b : ∀ k, RIn ur ua k → ¬ k = r1 := fun k hk z => by have := HB.out.bl k hk; have := HB.out.h1; omega
  have n_t : ∀ k, sv.ownBlock = some k → ¬ k = r1 := fun k hk z => by have := HB.out.tl k hk; have := HB.out.h1; omega
  have g0 := HB.out.d0
  have g1 := HB.out.d1
  have g2 := HB.out.d2
  have gf := HB.out.df
  have HS := hide HB.out.ss
  have HE : Hid (Ex (fun k => k = s ∨ False) w W) := HB.out.ex.mono (fun _ z => z.elim)
  go_wp2_with (with_reducible refine bodyPost_ret (v := ansV 0 0 ⟨#[]⟩) ?hr ?hd ?hp)
  case hr => simp [results, Try.results11, go_sem, ansV, g0, g1, g2]
  case hd => rfl
  case hp => exact ⟨rfl, ((HE.out.setNew (p := r1) hr1w _).setNew (p := r1) hr1w _).setNew (p := r1) hr1w _, vr, va, ur, ua, sv, HS.out.r1 n_s n_n n_b n_t _ _ _, fun k hk => .inl hk, fun k hk => .inr (.inl hk), fun k hk => .inl hk⟩
set_option linter.unusedSimpArgs false in
set_option maxRecDepth 100000 in
set_option maxHeartbeats 16000000 in
theorem q_undo0 (w : World) (s : Nat) (y : SM) (vr va ur ua : Nat → Value) (sv : Value) (a : Int) (c : Chg) (da : Option Addr) (s_ : List Int) (cp : Nat) (h : SQ w s y vr va ur ua sv) (hcu : y.cu = false) :
    Calls Try.prog 11 #[.pointer (some ⟨s, 0, none⟩), .agg #[.int .i64 4, .int .i64 a, .int .i64 c.kd, .int .i64 c.dv, .int .i64 c.hp, .int .i64 c.pr, .int .i64 c.ln, .int .i64 c.ix, .int .i64 c.cl, .bool c.pm, .bool c.up, .slice da s_.length cp]] w (QPost w s vr va ur ua sv (fun _ => False) (y, ⟨9, 0, ⟨#[]⟩⟩)) := by
  obtain ⟨W, hW⟩ : ∃ W, W = (w.alloc (.cells #[.int .i64 4, .int .i64 a, .int .i64 c.kd, .int .i64 c.dv, .int .i64 c.hp, .int .i64 c.pr, .int .i64 c.ln, .int .i64 c.ix, .int .i64 c.cl, .bool c.pm, .bool c.up, .slice da s_.length cp] 48)).alloc (.cells #[.int .i64 0, .int .i64 0, .string ⟨#[]⟩] 40) := ⟨_, rfl⟩
  have HB : Hid (QB w W s y vr va ur ua sv w.heap.size (w.heap.size + 1)) := by rw [hW]; exact qb_new h _
  have HBX : Hid (∀ j u, (#[.int .i64 4, .int .i64 a, .int .i64 c.kd, .int .i64 c.dv, .int .i64 c.hp, .int .i64 c.pr, .int .i64 c.ln, .int .i64 c.ix, .int .i64 c.cl, .bool c.pm, .bool c.up, .slice da s_.length cp].toList)[j]? = some u → W.cell? ⟨w.heap.size, j, none⟩ = some u) := fun j u hj => by
    have h1 := new_cells w [.int .i64 4, .int .i64 a, .int .i64 c.kd, .int .i64 c.dv, .int .i64 c.hp, .int .i64 c.pr, .int .i64 c.ln, .int .i64 c.ix, .int .i64 c.cl, .bool c.pm, .bool c.up, .slice da s_.length cp] 48 j u hj
    rw [Addr.add_mid, Nat.zero_add] at h1
    rw [hW]
    exact ((Ex.refl (fun _ => False) _).alloc _).cell (fun e => e) h1
  go_enter Try.func11, Try.ntmps11
  go_upto_region 1 with fail
  rw [← hW]
  clear hW h
  obtain ⟨r1, hr1⟩ : ∃ r, w.heap.size + 1 = r := ⟨_, rfl⟩
  rw [hr1] at HB ⊢
  obtain ⟨r0, hr0⟩ : ∃ r, w.heap.size = r := ⟨_, rfl⟩
  rw [hr0] at HB HBX ⊢
  clear hr0 hr1
  have k0 := HBX.out 0 _ rfl
  have hr1w : w.heap.size ≤ r1 := by have := HB.out.h1; omega
  have n_s : ¬ s = r1 := by have := HB.out.sl; have := HB.out.h1; omega
  have n_n : ∀ k, RIn vr va k → ¬ k = r1 := fun k hk z => by have := HB.out.nl k hk; have := HB.out.h1; omega
  have n_b : ∀ k, RIn ur ua k → ¬ k = r1 := fun k hk z => by have := HB.out.bl k hk; have := HB.out.h1; omega
  have n_t : ∀ k, sv.ownBlock = some k → ¬ k = r1 := fun k hk z => by have := HB.out.tl k hk; have := HB.out.h1; omega
  have g0 := HB.out.d0
  have g1 := HB.out.d1
  have g2 := HB.out.d2
  have gf := HB.out.df
  have HS := hide HB.out.ss
  have HE : Hid (Ex (fun k => k = s ∨ False) w W) := HB.out.ex.mono (fun _ z => z.elim)
  have k4 := HB.out.ss.cuc
  rw [hcu] at k4
  go_wp2_with (with_reducible refine bodyPost_ret (v := ansV 9 0 ⟨#[]⟩) ?hr ?hd ?hp)
  case hr => simp [results, Try.results11, go_sem, ansV, g0, g1, g2]
  case hd => rfl
  case hp => exact ⟨rfl, ((HE.out.setNew (p := r1) hr1w _).setNew (p := r1) hr1w _).setNew (p := r1) hr1w _, vr, va, ur, ua, sv, HS.out.r1 n_s n_n n_b n_t _ _ _, fun k hk => .inl hk, fun k hk => .inr (.inl hk), fun k hk => .inl hk⟩
set_option linter.unusedSimpArgs false in
set_option maxRecDepth 100000 in
set_option maxHeartbeats 16000000 in
theorem q_undo1 (w : World) (s : Nat) (y : SM) (vr va ur ua : Nat → Value) (sv : Value) (a : Int) (c : Chg) (da : Option Addr) (s_ : List Int) (cp : Nat) (h : SQ w s y vr va ur ua sv) (hcu : y.cu = true) :
    Calls Try.prog 11 #[.pointer (some ⟨s, 0, none⟩), .agg #[.int .i64 4, .int .i64 a, .int .i64 c.kd, .int .i64 c.dv, .int .i64 c.hp, .int .i64 c.pr, .int .i64 c.ln, .int .i64 c.ix, .int .i64 c.cl, .bool c.pm, .bool c.up, .slice da s_.length cp]] w (QPost w s vr va ur ua sv (fun _ => False) ({ y with now := y.bef, cu := false }, ⟨0, 0, ⟨#[]⟩⟩)) := by
  obtain ⟨W, hW⟩ : ∃ W, W = (w.alloc (.cells #[.int .i64 4, .int .i64 a, .int .i64 c.kd, .int .i64 c.dv, .int .i64 c.hp, .int .i64 c.pr, .int .i64 c.ln, .int .i64 c.ix, .int .i64 c.cl, .bool c.pm, .bool c.up, .slice da s_.length cp] 48)).alloc (.cells #[.int .i64 0, .int .i64 0, .string ⟨#[]⟩] 40) := ⟨_, rfl⟩
  have HB : Hid (QB w W s y vr va ur ua sv w.heap.size (w.heap.size + 1)) := by rw [hW]; exact qb_new h _
  have HBX : Hid (∀ j u, (#[.int .i64 4, .int .i64 a, .int .i64 c.kd, .int .i64 c.dv, .int .i64 c.hp, .int .i64 c.pr, .int .i64 c.ln, .int .i64 c.ix, .int .i64 c.cl, .bool c.pm, .bool c.up, .slice da s_.length cp].toList)[j]? = some u → W.cell? ⟨w.heap.size, j, none⟩ = some u) := fun j u hj => by
    have h1 := new_cells w [.int .i64 4, .int .i64 a, .int .i64 c.kd, .int .i64 c.dv, .int .i64 c.hp, .int .i64 c.pr, .int .i64 c.ln, .int .i64 c.ix, .int .i64 c.cl, .bool c.pm, .bool c.up, .slice da s_.length cp] 48 j u hj
    rw [Addr.add_mid, Nat.zero_add] at h1
    rw [hW]
    exact ((Ex.refl (fun _ => False) _).alloc _).cell (fun e => e) h1
  go_enter Try.func11, Try.ntmps11
  go_upto_region 1 with fail
  rw [← hW]
  clear hW h
  obtain ⟨r1, hr1⟩ : ∃ r, w.heap.size + 1 = r := ⟨_, rfl⟩
  rw [hr1] at HB ⊢
  obtain ⟨r0, hr0⟩ : ∃ r, w.heap.size = r := ⟨_, rfl⟩
  rw [hr0] at HB HBX ⊢
  clear hr0 hr1
  have k0 := HBX.out 0 _ rfl
  have hr1w : w.heap.size ≤ r1 := by have := HB.out.h1; omega
  have n_s : ¬ s = r1 := by have := HB.out.sl; have := HB.out.h1; omega
  have n_n : ∀ k, RIn vr va k → ¬ k = r1 := fun k hk z => by have := HB.out.nl k hk; have := HB.out.h1; omega
  have n_b : ∀ k, RIn ur ua k → ¬ k = r1 := fun k hk z => by have := HB.out.bl k hk; have := HB.out.h1; omega
  have n_t : ∀ k, sv.ownBlock = some k → ¬ k = r1 := fun k hk z => by have := HB.out.tl k hk; have := HB.out.h1; omega
  have g0 := HB.out.d0
  have g1 := HB.out.d1
  have g2 := HB.out.d2
  have gf := HB.out.df
  have k4 := HB.out.ss.cuc
  rw [hcu] at k4
  have HLN := hide (mnC_len y.bef ur ua)
  have HRB := hide HB.out.ss.bef.range
  have HON := hide HB.out.ss.bef.mv.one
  have HTN := hide HB.out.ss.thereN
  have HUN := hide HB.out.ss.undo
  obtain ⟨cs, hcs⟩ : ∃ cs, mnC y.bef ur ua = cs := ⟨_, rfl⟩
  rw [hcs] at HLN HRB HON HUN
  clear hcs
  go_upto_region 21 with fail
  refine wp_region_lit ?_
  refine wpL_run rfl (.pointer (some ⟨s, 0, none⟩)) _ rfl ?_
  try simp only [Act.put, List.getElem_toArray, List.getElem_cons_zero, List.getElem_cons_succ, List.setIfInBounds_toArray, List.set_cons_zero, List.set_cons_succ]
  refine wpL_run rfl (.pointer (some ⟨s, 0, none⟩)) _ rfl ?_
  try simp only [Act.put, List.getElem_toArray, List.getElem_cons_zero, List.getElem_cons_succ, List.setIfInBounds_toArray, List.set_cons_zero, List.set_cons_succ]
  refine wpL_run rfl (.pointer (some ⟨s, 0, none⟩)) _ rfl ?_
  try simp only [Act.put, List.getElem_toArray, List.getElem_cons_zero, List.getElem_cons_succ, List.setIfInBounds_toArray, List.set_cons_zero, List.set_cons_succ]
  refine wpL_run rfl (.pointer (some ⟨s, 305, none⟩)) _ rfl ?_
  try simp only [Act.put, List.getElem_toArray, List.getElem_cons_zero, List.getElem_cons_succ, List.setIfInBounds_toArray, List.set_cons_zero, List.set_cons_succ]
  refine wpL_load rfl 34 (.tmp 87) rfl s 305 rfl cs _ HRB.out Try.underlying34 rfl (by rw [HLN.out]; exact Try.sz34) ?_
  try simp only [Act.put, List.getElem_toArray, List.getElem_cons_zero, List.getElem_cons_succ, List.setIfInBounds_toArray, List.set_cons_zero, List.set_cons_succ]
  refine wpL_run rfl (.pointer (some ⟨s, 0, none⟩)) _ rfl ?_
  try simp only [Act.put, List.getElem_toArray, List.getElem_cons_zero, List.getElem_cons_succ, List.setIfInBounds_toArray, List.set_cons_zero, List.set_cons_succ]
  refine wpL_run rfl (.pointer (some ⟨s, 0, none⟩)) _ rfl ?_
  try simp only [Act.put, List.getElem_toArray, List.getElem_cons_zero, List.getElem_cons_succ, List.setIfInBounds_toArray, List.set_cons_zero, List.set_cons_succ]
  refine wpL_store rfl 34 (.tmp 90) (.tmp 88) rfl s 0 cs rfl rfl (by rw [HLN.out]; exact HTN.out) (by rw [HLN.out]; exact Try.sz34) HON.out ?_
  try simp only [Act.put, List.getElem_toArray, List.getElem_cons_zero, List.getElem_cons_succ, List.setIfInBounds_toArray, List.set_cons_zero, List.set_cons_succ]
  refine wpList_nil ?_
  have E2 : Ex (fun k => k = s) W (W.setCells s 0 cs) := Ex.sets (S := fun k => k = s) (p := s) rfl _ _ _ (Ex.refl _ _)
  have k9 : (W.setCells s 0 cs).cell? ⟨s, 609, none⟩ = some (.bool true) := by
    rw [out_cell _ _ _ _ _ (.inr (by rw [HLN.out]; omega))]; exact k4
  have k9f : (W.setCells s 0 cs).frozen? ⟨s, 609, none⟩ = false := by rw [World.frozen?_setCells]; exact HB.out.ss.fz _
  have E3 : Ex (fun k => k = s) W ((W.setCells s 0 cs).setCell ⟨s, 609, none⟩ (.bool false)) := E2.set (p := s) rfl _
  have hrs : ¬ r1 = s := fun z => n_s z.symm
  have hr1W : r1 < W.heap.size := World.block_lt_of_cell? _ _ g0
  have q0 := E3.cell hrs g0
  have q1 := E3.cell hrs g1
  have q2 := E3.cell hrs g2
  have qf := E3.frw hrs hr1W gf
  have HE3 : Hid (Ex (fun k => k = s ∨ False) w ((W.setCells s 0 cs).setCell ⟨s, 609, none⟩ (.bool false))) := (HB.out.ex.mono (fun _ z => z.elim)).trans (E3.mono (fun k hk => .inl hk))
  clear E2 E3 k4 g0 g1 g2 gf k0
  generalize W.setCells s 0 cs = V at *
  generalize Value.agg cs.toArray = CV at *
  go_upto_region 23 with fail
  clear k9 k9f
  generalize V.setCell ⟨s, 609, none⟩ (.bool false) = V2 at *
  go_wp2_with (with_reducible refine bodyPost_ret (v := ansV 0 0 ⟨#[]⟩) ?hr ?hd ?hp)
  case hr => simp [results, Try.results11, go_sem, ansV, q0, q1, q2]
  case hd => rfl
  case hp => exact ⟨rfl, ((HE3.out.setNew (p := r1) hr1w _).setNew (p := r1) hr1w _).setNew (p := r1) hr1w _, ur, ua, ur, ua, sv, HUN.out.r1 n_s n_b n_b n_t _ _ _, fun k hk => .inr (.inl hk), fun k hk => .inr (.inl hk), fun k hk => .inl hk⟩
set_option linter.unusedSimpArgs false in
set_option maxRecDepth 100000 in
set_option maxHeartbeats 16000000 in
theorem q_commit (w : World) (s : Nat) (y : SM) (vr va ur ua : Nat → Value) (sv : Value) (a : Int) (c : Chg) (da : Option Addr) (s_ : List Int) (cp : Nat) (h : SQ w s y vr va ur ua sv) (hst : y.st.length ≤ 1099511627776) :
    Calls Try.prog 11 #[.pointer (some ⟨s, 0, none⟩), .agg #[.int .i64 3, .int .i64 a, .int .i64 c.kd, .int .i64 c.dv, .int .i64 c.hp, .int .i64 c.pr, .int .i64 c.ln, .int .i64 c.ix, .int .i64 c.cl, .bool c.pm, .bool c.up, .slice da s_.length cp]] w (QPost w s vr va ur ua sv (fun _ => False) (applyM { y with st := [] } a y.st)) := by
  obtain ⟨W, hW⟩ : ∃ W, W = (w.alloc (.cells #[.int .i64 3, .int .i64 a, .int .i64 c.kd, .int .i64 c.dv, .int .i64 c.hp, .int .i64 c.pr, .int .i64 c.ln, .int .i64 c.ix, .int .i64 c.cl, .bool c.pm, .bool c.up, .slice da s_.length cp] 48)).alloc (.cells #[.int .i64 0, .int .i64 0, .string ⟨#[]⟩] 40) := ⟨_, rfl⟩
  have HB : Hid (QB w W s y vr va ur ua sv w.heap.size (w.heap.size + 1)) := by rw [hW]; exact qb_new h _
  have HBX : Hid (∀ j u, (#[.int .i64 3, .int .i64 a, .int .i64 c.kd, .int .i64 c.dv, .int .i64 c.hp, .int .i64 c.pr, .int .i64 c.ln, .int .i64 c.ix, .int .i64 c.cl, .bool c.pm, .bool c.up, .slice da s_.length cp].toList)[j]? = some u → W.cell? ⟨w.heap.size, j, none⟩ = some u) := fun j u hj => by
    have h1 := new_cells w [.int .i64 3, .int .i64 a, .int .i64 c.kd, .int .i64 c.dv, .int .i64 c.hp, .int .i64 c.pr, .int .i64 c.ln, .int .i64 c.ix, .int .i64 c.cl, .bool c.pm, .bool c.up, .slice da s_.length cp] 48 j u hj
    rw [Addr.add_mid, Nat.zero_add] at h1
    rw [hW]
    exact ((Ex.refl (fun _ => False) _).alloc _).cell (fun e => e) h1
  go_enter Try.func11, Try.ntmps11
  go_upto_region 1 with fail
  rw [← hW]
  clear hW h
  obtain ⟨r1, hr1⟩ : ∃ r, w.heap.size + 1 = r := ⟨_, rfl⟩
  rw [hr1] at HB ⊢
  obtain ⟨r0, hr0⟩ : ∃ r, w.heap.size = r := ⟨_, rfl⟩
  rw [hr0] at HB HBX ⊢
  clear hr0 hr1
  have k0 := HBX.out 0 _ rfl
  have hr1w : w.heap.size ≤ r1 := by have := HB.out.h1; omega
  have n_s : ¬ s = r1 := by have := HB.out.sl; have := HB.out.h1; omega
  have n_n : ∀ k, RIn vr va k → ¬ k = r1 := fun k hk z => by have := HB.out.nl k hk; have := HB.out.h1; omega
  have n_b : ∀ k, RIn ur ua k → ¬ k = r1 := fun k hk z => by have := HB.out.bl k hk; have := HB.out.h1; omega
  have n_t : ∀ k, sv.ownBlock = some k → ¬ k = r1 := fun k hk z => by have := HB.out.tl k hk; have := HB.out.h1; omega
  have g0 := HB.out.d0
  have g1 := HB.out.d1
  have g2 := HB.out.d2
  have gf := HB.out.df
  obtain ⟨sa, sc, hsv⟩ := own_len HB.out.ss.sto
  obtain ⟨n, hn⟩ : ∃ n, y.st.length = n := ⟨_, rfl⟩
  rw [hn] at hsv
  subst hsv
  have k1 := HBX.out 1 _ rfl
  have s4 := HB.out.ss.stc
  have sf := HB.out.ss.fz
  have hsW : s < W.heap.size := HB.out.ss.lt
  have hr0W : r0 < W.heap.size := World.block_lt_of_cell? _ _ k0
  have b0 := new_cells W [.int .i64 a, .slice sa n sc] 52 0 _ rfl
  have b1 := new_cells W [.int .i64 a, .slice sa n sc] 52 1 _ rfl
  simp only [Addr.add_mid, Nat.zero_add] at b0 b1
  have HNL := hide hn
  clear hn
  go_upto_region 15 with fail
  clear k0
  go_region
  have E1 : Ex (fun _ => False) W (W.alloc (.cells #[.int .i64 a, .slice sa n sc] 52)).drew := ((Ex.refl _ W).alloc _).drew
  have HS1 := hide (HB.out.ss.new E1)
  have s4 := HS1.out.stc
  have sf := HS1.out.fz
  have g0 := E1.cell (fun e => e) g0
  have g1 := E1.cell (fun e => e) g1
  have g2 := E1.cell (fun e => e) g2
  have gf := E1.frw (fun e => e) (World.block_lt_of_cell? _ _ HB.out.d0) gf
  have HE1 := hide (HB.out.ex.trans E1)
  have hbb : ¬ W.heap.size = s := by omega
  have b0 : (W.alloc (.cells #[.int .i64 a, .slice sa n sc] 52)).drew.cell? ⟨W.heap.size, 0, none⟩ = some (.int .i64 a) := b0
  have b1 : (W.alloc (.cells #[.int .i64 a, .slice sa n sc] 52)).drew.cell? ⟨W.heap.size, 1, none⟩ = some (.slice sa n sc) := b1
  clear E1 k1 HBX
  generalize (W.alloc (.cells #[.int .i64 a, .slice sa n sc] 52)).drew = W2 at *
  obtain ⟨pb, hpb⟩ : ∃ p, W.heap.size = p := ⟨_, rfl⟩
  rw [hpb] at b0 b1 hbb ⊢
  clear hpb
  have E2 : Ex (fun k => k = s) W2 (W2.setCell ⟨s, 304, none⟩ (.slice none 0 0)) := (Ex.refl (fun k => k = s) W2).set (p := s) rfl _
  have HSB : Hid (SQ (W2.setCell ⟨s, 304, none⟩ (.slice none 0 0)) s { y with st := [] } vr va ur ua (.slice none 0 0)) := HS1.out.stage (Ex.refl _ _) (.slice none 0 0) [] (World.ownsRow_nil _ _ _ _) (fun k hk => by cases hk)
  have HEB : Hid (Ex (fun k => k = s ∨ False) w (W2.setCell ⟨s, 304, none⟩ (.slice none 0 0))) := (HE1.out.mono (fun _ z => z.elim)).set (p := s) (.inl rfl) _
  have HOC : Hid ((W2.setCell ⟨s, 304, none⟩ (.slice none 0 0)).ownsRow (s + 1) 45 9 (.slice sa n sc) y.st.length (flatC y.st)) := own_kept HS1.out.sto E2 (fun k hk (z : k = s) => by have := (HS1.out.sto.lt k hk).1; omega)
  have hrs0 : ¬ r1 = s := fun z => n_s z.symm
  have hr1W : r1 < W2.heap.size := World.block_lt_of_cell? _ _ g0
  have g0 := E2.cell hrs0 g0
  have g1 := E2.cell hrs0 g1
  have g2 := E2.cell hrs0 g2
  have gf := E2.frw hrs0 hr1W gf
  have b0 := E2.cell hbb b0
  have b1 := E2.cell hbb b1
  go_upto_region 17 with fail
  clear E2 s4 sf HS1
  generalize W2.setCell ⟨s, 304, none⟩ (.slice none 0 0) = WB at *
  have HCL := hide (applyQ_any WB s _ { y with st := [] } vr va ur ua (Value.slice none 0 0) a _ y.st HSB.out HOC.out hst)
  obtain ⟨RR, hRR⟩ : ∃ q, applyM { y with st := [] } a y.st = q := ⟨_, rfl⟩
  rw [hRR] at HCL
  have HRR := hide hRR
  clear hRR
  go_wp2_with fail
  refine HCL.out.mono ?_
  rintro e W5 ⟨rfl, hex5, xr, xa, zr, za, sv5, hsq5, hn5, hb5, ht5⟩
  have HS5 := hide hsq5
  have hrs : ¬ (r1 = s ∨ False) := fun z => by rcases z with z | z; exact n_s z.symm; exact z
  have hr1b : r1 < WB.heap.size := World.block_lt_of_cell? _ _ g0
  have q0 := hex5.cell hrs g0
  have q1 := hex5.cell hrs g1
  have q2 := hex5.cell hrs g2
  have qf := hex5.frw hrs hr1b gf
  have HE5 : Hid (Ex (fun k => k = s ∨ False) w W5) := HEB.out.trans hex5
  have hsz : w.heap.size ≤ WB.heap.size := HEB.out.size
  have HN5 : Hid (∀ k, RIn xr xa k → RIn vr va k ∨ RIn ur ua k ∨ WB.heap.size ≤ k) := hn5
  have HB5 : Hid (∀ k, RIn zr za k → RIn vr va k ∨ RIn ur ua k ∨ WB.heap.size ≤ k) := hb5
  have m_n : ∀ k, RIn xr xa k → ¬ k = r1 := fun k hk z => by
    rcases HN5.out k hk with q | q | q
    · exact n_n k q z
    · exact n_b k q z
    · omega
  have m_b : ∀ k, RIn zr za k → ¬ k = r1 := fun k hk z => by
    rcases HB5.out k hk with q | q | q
    · exact n_n k q z
    · exact n_b k q z
    · omega
  have HT5 : Hid (∀ k, sv5.ownBlock = some k → (Value.slice none 0 0).ownBlock = some k ∨ WB.heap.size ≤ k) := ht5
  have m_t : ∀ k, sv5.ownBlock = some k → ¬ k = r1 := fun k hk z => by
    rcases HT5.out k hk with q | q
    · cases q
    · omega
  clear hex5 hsq5 hn5 hb5 ht5 HCL g0 g1 g2 gf HSB HEB
  obtain ⟨Y5, ⟨ae, at5, ax⟩⟩ := RR
  unfold ansV
  simp only []
  go_wp2_with (with_reducible refine bodyPost_ret (v := ansV ae at5 ax) ?hr ?hd ?hp)
  case hr => simp [results, Try.results11, go_sem, ansV, q0, q1, q2]
  case hd => rfl
  case hp =>
    rw [HRR.out]
    refine ⟨rfl, ((HE5.out.setNew (p := r1) hr1w _).setNew (p := r1) hr1w _).setNew (p := r1) hr1w _, xr, xa, zr, za, sv5, HS5.out.r1 n_s m_n m_b m_t _ _ _, fun k hk => ?_, fun k hk => ?_, fun k hk => ?_⟩
    · rcases HN5.out k hk with q | q | q
      · exact .inl q
      · exact .inr (.inl q)
      · exact .inr (.inr (by omega))
    · rcases HB5.out k hk with q | q | q
      · exact .inl q
      · exact .inr (.inl q)
      · exact .inr (.inr (by omega))
    · rcases HT5.out k hk with q | q
      · cases q
      · exact .inr (by omega)
end Go.Proofs.Qxb6500778a
