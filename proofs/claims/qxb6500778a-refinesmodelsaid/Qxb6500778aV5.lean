import Derived.Test.Qxb6500778aV4
namespace Go.Proofs.Qxb6500778a
open Go.RowKit

set_option linter.unusedSimpArgs false in
set_option maxRecDepth 100000 in
set_option maxHeartbeats 16000000 in
theorem q_par_bad (w : World) (s : Nat) (y : SM) (vr va ur ua : Nat → Value) (sv : Value) (a : Int) (c : Chg) (da : Option Addr) (s_ : List Int) (cp : Nat) (h : SQ w s y vr va ur ua sv) (hl : s_.length ≤ 65536) (hcp : s_.length ≤ cp) (hsrc : SrcAt w da s_) (hb : Byt s_) (hper : (parseP s_).er ≠ 0) :
    Calls Try.prog 11 #[.pointer (some ⟨s, 0, none⟩), .agg #[.int .i64 0, .int .i64 a, .int .i64 c.kd, .int .i64 c.dv, .int .i64 c.hp, .int .i64 c.pr, .int .i64 c.ln, .int .i64 c.ix, .int .i64 c.cl, .bool c.pm, .bool c.up, .slice da s_.length cp]] w (QPost w s vr va ur ua sv (fun _ => False) (y, ⟨(parseP s_).er, (parseP s_).at_, ⟨#[]⟩⟩)) := by
  obtain ⟨W, hW⟩ : ∃ W, W = (w.alloc (.cells #[.int .i64 0, .int .i64 a, .int .i64 c.kd, .int .i64 c.dv, .int .i64 c.hp, .int .i64 c.pr, .int .i64 c.ln, .int .i64 c.ix, .int .i64 c.cl, .bool c.pm, .bool c.up, .slice da s_.length cp] 48)).alloc (.cells #[.int .i64 0, .int .i64 0, .string ⟨#[]⟩] 40) := ⟨_, rfl⟩
  have HB : Hid (QB w W s y vr va ur ua sv w.heap.size (w.heap.size + 1)) := by rw [hW]; exact qb_new h _
  have HBX : Hid (∀ j u, (#[.int .i64 0, .int .i64 a, .int .i64 c.kd, .int .i64 c.dv, .int .i64 c.hp, .int .i64 c.pr, .int .i64 c.ln, .int .i64 c.ix, .int .i64 c.cl, .bool c.pm, .bool c.up, .slice da s_.length cp].toList)[j]? = some u → W.cell? ⟨w.heap.size, j, none⟩ = some u) := fun j u hj => by
    have h1 := new_cells w [.int .i64 0, .int .i64 a, .int .i64 c.kd, .int .i64 c.dv, .int .i64 c.hp, .int .i64 c.pr, .int .i64 c.ln, .int .i64 c.ix, .int .i64 c.cl, .bool c.pm, .bool c.up, .slice da s_.length cp] 48 j u hj
    rw [Addr.add_mid, Nat.zero_add] at h1
    rw [hW]
    exact ((Ex.refl (fun _ => False) _).alloc _).cell (fun e => e) h1
  go_enter Try.func11, Try.ntmps11
  go_upto_region 1 with fail
  rw [← hW]
  clear hW h
  obtain ⟨r1, hr1⟩ : ∃ r, w.heap.size + 1 = r := ⟨_, rfl⟩
  rw [hr1] at HB ⊢
  obtain ⟨r0, hr0⟩ : ∃ r, w.heap.size = r := ⟨_, rfl⟩
  rw [hr0] at HB HBX ⊢
  clear hr0 hr1
  have k0 := HBX.out 0 _ rfl
  have hr1w : w.heap.size ≤ r1 := by have := HB.out.h1; omega
  have n_s : ¬ s = r1 := by have := HB.out.sl; have := HB.out.h1; omega
  have n_n : ∀ k, RIn vr va k → ¬ k = r1 := fun k hk z => by have := HB.out.nl k hk; have := HB.out.h1; omega
  have n_b : ∀ k, RIn ur ua k → ¬ k = r1 := fun k hk z => by have := HB.out.bl k hk; have := HB.out.h1; omega
  have n_t : ∀ k, sv.ownBlock = some k → ¬ k = r1 := fun k hk z => by have := HB.out.tl k hk; have := HB.out.h1; omega
  have g0 := HB.out.d0
  have g1 := HB.out.d1
  have g2 := HB.out.d2
  have gf := HB.out.df
  have bd := HBX.out 11 _ rfl
  have HPG := hide (parse_good s_)
  have HPC := hide (parseM_any W da cp s_ hl hcp (fun k c hc => by
    obtain ⟨g, off, e1, e2⟩ := hsrc k c hc
    exact ⟨g, off, e1, HB.out.ex.cell (fun e => e) e2⟩) hb)
  obtain ⟨⟨pid, pcs, per, pat⟩, hP⟩ : ∃ q, parseP s_ = q := ⟨_, rfl⟩
  rw [hP] at HPG HPC hper
  have HP := hide hP
  simp only [] at HPG HPC hper
  clear hP hl hcp hsrc hb
  go_wp2_with fail
  refine HPC.out.mono ?_
  rintro e W2 ⟨pv, rfl, hex2, hown2⟩
  obtain ⟨pa, pc, rfl⟩ := own_len hown2
  simp only [] at hown2
  have HOW2 := hide hown2
  obtain ⟨pn, hpn⟩ : ∃ n, pcs.length = n := ⟨_, rfl⟩
  have HPN := hide hpn
  simp only [hpn]
  rw [hpn] at HOW2
  clear hpn
  have E1 : Ex (fun _ => False) W (W2.alloc (.cells #[.int .i64 pid, .slice pa pn pc] 52)) := hex2.alloc _
  have HSB := hide (HB.out.ss.new E1)
  have HEB : Hid (Ex (fun k => k = s ∨ False) w (W2.alloc (.cells #[.int .i64 pid, .slice pa pn pc] 52))) := (HB.out.ex.trans E1).mono (fun _ z => z.elim)
  have HOC : Hid ((W2.alloc (.cells #[.int .i64 pid, .slice pa pn pc] 52)).ownsRow W.heap.size 45 9 (.slice pa pn pc) pcs.length (flatC pcs)) := by
    have := own_kept HOW2.out ((Ex.refl (fun _ => False) W2).alloc (.cells #[.int .i64 pid, .slice pa pn pc] 52)) (fun _ _ e => e)
    rw [← HPN.out] at this ⊢
    exact this
  have hr1W : r1 < W.heap.size := World.block_lt_of_cell? _ _ g0
  have g0 := E1.cell (fun e => e) g0
  have g1 := E1.cell (fun e => e) g1
  have g2 := E1.cell (fun e => e) g2
  have gf := E1.frw (fun e => e) hr1W gf
  have b0 := new_cells W2 [.int .i64 pid, .slice pa pn pc] 52 0 _ rfl
  have b1 := new_cells W2 [.int .i64 pid, .slice pa pn pc] 52 1 _ rfl
  simp only [Addr.add_mid, Nat.zero_add] at b0 b1
  clear hex2 hown2 HPC E1 bd k0 HOW2
  go_upto_region 4 with fail
  generalize W2.alloc (.cells #[.int .i64 pid, .slice pa pn pc] 52) = WB at *
  generalize W2.heap.size = pb at *
  have hpb : (per == 0) = false := by simpa using hper
  go_wp2_with (with_reducible refine bodyPost_ret (v := ansV per pat ⟨#[]⟩) ?hr ?hd ?hp)
  case hr => simp [results, Try.results11, go_sem, ansV, g0, g1, g2]
  case hd => rfl
  case hp => exact by rw [HP.out]; exact ⟨rfl, ((HEB.out.setNew (p := r1) hr1w _).setNew (p := r1) hr1w _).setNew (p := r1) hr1w _, vr, va, ur, ua, sv, HSB.out.r1 n_s n_n n_b n_t _ _ _, fun k hk => .inl hk, fun k hk => .inr (.inl hk), fun k hk => .inl hk⟩
set_option linter.unusedSimpArgs false in
set_option maxRecDepth 100000 in
set_option maxHeartbeats 16000000 in
theorem q_sub_bad (w : World) (s : Nat) (y : SM) (vr va ur ua : Nat → Value) (sv : Value) (a : Int) (c : Chg) (da : Option Addr) (s_ : List Int) (cp : Nat) (h : SQ w s y vr va ur ua sv) (hl : s_.length ≤ 65536) (hcp : s_.length ≤ cp) (hsrc : SrcAt w da s_) (hb : Byt s_) (hper : (parseP s_).er ≠ 0) :
    Calls Try.prog 11 #[.pointer (some ⟨s, 0, none⟩), .agg #[.int .i64 1, .int .i64 a, .int .i64 c.kd, .int .i64 c.dv, .int .i64 c.hp, .int .i64 c.pr, .int .i64 c.ln, .int .i64 c.ix, .int .i64 c.cl, .bool c.pm, .bool c.up, .slice da s_.length cp]] w (QPost w s vr va ur ua sv (fun _ => False) (y, ⟨(parseP s_).er, (parseP s_).at_, ⟨#[]⟩⟩)) := by
  obtain ⟨W, hW⟩ : ∃ W, W = (w.alloc (.cells #[.int .i64 1, .int .i64 a, .int .i64 c.kd, .int .i64 c.dv, .int .i64 c.hp, .int .i64 c.pr, .int .i64 c.ln, .int .i64 c.ix, .int .i64 c.cl, .bool c.pm, .bool c.up, .slice da s_.length cp] 48)).alloc (.cells #[.int .i64 0, .int .i64 0, .string ⟨#[]⟩] 40) := ⟨_, rfl⟩
  have HB : Hid (QB w W s y vr va ur ua sv w.heap.size (w.heap.size + 1)) := by rw [hW]; exact qb_new h _
  have HBX : Hid (∀ j u, (#[.int .i64 1, .int .i64 a, .int .i64 c.kd, .int .i64 c.dv, .int .i64 c.hp, .int .i64 c.pr, .int .i64 c.ln, .int .i64 c.ix, .int .i64 c.cl, .bool c.pm, .bool c.up, .slice da s_.length cp].toList)[j]? = some u → W.cell? ⟨w.heap.size, j, none⟩ = some u) := fun j u hj => by
    have h1 := new_cells w [.int .i64 1, .int .i64 a, .int .i64 c.kd, .int .i64 c.dv, .int .i64 c.hp, .int .i64 c.pr, .int .i64 c.ln, .int .i64 c.ix, .int .i64 c.cl, .bool c.pm, .bool c.up, .slice da s_.length cp] 48 j u hj
    rw [Addr.add_mid, Nat.zero_add] at h1
    rw [hW]
    exact ((Ex.refl (fun _ => False) _).alloc _).cell (fun e => e) h1
  go_enter Try.func11, Try.ntmps11
  go_upto_region 1 with fail
  rw [← hW]
  clear hW h
  obtain ⟨r1, hr1⟩ : ∃ r, w.heap.size + 1 = r := ⟨_, rfl⟩
  rw [hr1] at HB ⊢
  obtain ⟨r0, hr0⟩ : ∃ r, w.heap.size = r := ⟨_, rfl⟩
  rw [hr0] at HB HBX ⊢
  clear hr0 hr1
  have k0 := HBX.out 0 _ rfl
  have hr1w : w.heap.size ≤ r1 := by have := HB.out.h1; omega
  have n_s : ¬ s = r1 := by have := HB.out.sl; have := HB.out.h1; omega
  have n_n : ∀ k, RIn vr va k → ¬ k = r1 := fun k hk z => by have := HB.out.nl k hk; have := HB.out.h1; omega
  have n_b : ∀ k, RIn ur ua k → ¬ k = r1 := fun k hk z => by have := HB.out.bl k hk; have := HB.out.h1; omega
  have n_t : ∀ k, sv.ownBlock = some k → ¬ k = r1 := fun k hk z => by have := HB.out.tl k hk; have := HB.out.h1; omega
  have g0 := HB.out.d0
  have g1 := HB.out.d1
  have g2 := HB.out.d2
  have gf := HB.out.df
  have bd := HBX.out 11 _ rfl
  have HPG := hide (parse_good s_)
  have HPC := hide (parseM_any W da cp s_ hl hcp (fun k c hc => by
    obtain ⟨g, off, e1, e2⟩ := hsrc k c hc
    exact ⟨g, off, e1, HB.out.ex.cell (fun e => e) e2⟩) hb)
  obtain ⟨⟨pid, pcs, per, pat⟩, hP⟩ : ∃ q, parseP s_ = q := ⟨_, rfl⟩
  rw [hP] at HPG HPC hper
  have HP := hide hP
  simp only [] at HPG HPC hper
  clear hP hl hcp hsrc hb
  go_wp2_with fail
  refine HPC.out.mono ?_
  rintro e W2 ⟨pv, rfl, hex2, hown2⟩
  obtain ⟨pa, pc, rfl⟩ := own_len hown2
  simp only [] at hown2
  have HOW2 := hide hown2
  obtain ⟨pn, hpn⟩ : ∃ n, pcs.length = n := ⟨_, rfl⟩
  have HPN := hide hpn
  simp only [hpn]
  rw [hpn] at HOW2
  clear hpn
  have E1 : Ex (fun _ => False) W (W2.alloc (.cells #[.int .i64 pid, .slice pa pn pc] 52)) := hex2.alloc _
  have HSB := hide (HB.out.ss.new E1)
  have HEB : Hid (Ex (fun k => k = s ∨ False) w (W2.alloc (.cells #[.int .i64 pid, .slice pa pn pc] 52))) := (HB.out.ex.trans E1).mono (fun _ z => z.elim)
  have HOC : Hid ((W2.alloc (.cells #[.int .i64 pid, .slice pa pn pc] 52)).ownsRow W.heap.size 45 9 (.slice pa pn pc) pcs.length (flatC pcs)) := by
    have := own_kept HOW2.out ((Ex.refl (fun _ => False) W2).alloc (.cells #[.int .i64 pid, .slice pa pn pc] 52)) (fun _ _ e => e)
    rw [← HPN.out] at this ⊢
    exact this
  have hr1W : r1 < W.heap.size := World.block_lt_of_cell? _ _ g0
  have g0 := E1.cell (fun e => e) g0
  have g1 := E1.cell (fun e => e) g1
  have g2 := E1.cell (fun e => e) g2
  have gf := E1.frw (fun e => e) hr1W gf
  have b0 := new_cells W2 [.int .i64 pid, .slice pa pn pc] 52 0 _ rfl
  have b1 := new_cells W2 [.int .i64 pid, .slice pa pn pc] 52 1 _ rfl
  simp only [Addr.add_mid, Nat.zero_add] at b0 b1
  clear hex2 hown2 HPC E1 bd k0 HOW2
  go_upto_region 9 with fail
  generalize W2.alloc (.cells #[.int .i64 pid, .slice pa pn pc] 52) = WB at *
  generalize W2.heap.size = pb at *
  have hpb : (per == 0) = false := by simpa using hper
  go_wp2_with (with_reducible refine bodyPost_ret (v := ansV per pat ⟨#[]⟩) ?hr ?hd ?hp)
  case hr => simp [results, Try.results11, go_sem, ansV, g0, g1, g2]
  case hd => rfl
  case hp => exact by rw [HP.out]; exact ⟨rfl, ((HEB.out.setNew (p := r1) hr1w _).setNew (p := r1) hr1w _).setNew (p := r1) hr1w _, vr, va, ur, ua, sv, HSB.out.r1 n_s n_n n_b n_t _ _ _, fun k hk => .inl hk, fun k hk => .inr (.inl hk), fun k hk => .inl hk⟩
set_option linter.unusedSimpArgs false in
set_option maxRecDepth 100000 in
set_option maxHeartbeats 16000000 in
theorem q_par_ok (w : World) (s : Nat) (y : SM) (vr va ur ua : Nat → Value) (sv : Value) (a : Int) (c : Chg) (da : Option Addr) (s_ : List Int) (cp : Nat) (h : SQ w s y vr va ur ua sv) (hl : s_.length ≤ 65536) (hcp : s_.length ≤ cp) (hsrc : SrcAt w da s_) (hb : Byt s_) (hper : (parseP s_).er = 0) :
    Calls Try.prog 11 #[.pointer (some ⟨s, 0, none⟩), .agg #[.int .i64 0, .int .i64 a, .int .i64 c.kd, .int .i64 c.dv, .int .i64 c.hp, .int .i64 c.pr, .int .i64 c.ln, .int .i64 c.ix, .int .i64 c.cl, .bool c.pm, .bool c.up, .slice da s_.length cp]] w (QPost w s vr va ur ua sv (fun _ => False) (y, ⟨0, 0, strOfNums (printT (parseP s_).id (parseP s_).cs)⟩)) := by
  obtain ⟨W, hW⟩ : ∃ W, W = (w.alloc (.cells #[.int .i64 0, .int .i64 a, .int .i64 c.kd, .int .i64 c.dv, .int .i64 c.hp, .int .i64 c.pr, .int .i64 c.ln, .int .i64 c.ix, .int .i64 c.cl, .bool c.pm, .bool c.up, .slice da s_.length cp] 48)).alloc (.cells #[.int .i64 0, .int .i64 0, .string ⟨#[]⟩] 40) := ⟨_, rfl⟩
  have HB : Hid (QB w W s y vr va ur ua sv w.heap.size (w.heap.size + 1)) := by rw [hW]; exact qb_new h _
  have HBX : Hid (∀ j u, (#[.int .i64 0, .int .i64 a, .int .i64 c.kd, .int .i64 c.dv, .int .i64 c.hp, .int .i64 c.pr, .int .i64 c.ln, .int .i64 c.ix, .int .i64 c.cl, .bool c.pm, .bool c.up, .slice da s_.length cp].toList)[j]? = some u → W.cell? ⟨w.heap.size, j, none⟩ = some u) := fun j u hj => by
    have h1 := new_cells w [.int .i64 0, .int .i64 a, .int .i64 c.kd, .int .i64 c.dv, .int .i64 c.hp, .int .i64 c.pr, .int .i64 c.ln, .int .i64 c.ix, .int .i64 c.cl, .bool c.pm, .bool c.up, .slice da s_.length cp] 48 j u hj
    rw [Addr.add_mid, Nat.zero_add] at h1
    rw [hW]
    exact ((Ex.refl (fun _ => False) _).alloc _).cell (fun e => e) h1
  go_enter Try.func11, Try.ntmps11
  go_upto_region 1 with fail
  rw [← hW]
  clear hW h
  obtain ⟨r1, hr1⟩ : ∃ r, w.heap.size + 1 = r := ⟨_, rfl⟩
  rw [hr1] at HB ⊢
  obtain ⟨r0, hr0⟩ : ∃ r, w.heap.size = r := ⟨_, rfl⟩
  rw [hr0] at HB HBX ⊢
  clear hr0 hr1
  have k0 := HBX.out 0 _ rfl
  have hr1w : w.heap.size ≤ r1 := by have := HB.out.h1; omega
  have n_s : ¬ s = r1 := by have := HB.out.sl; have := HB.out.h1; omega
  have n_n : ∀ k, RIn vr va k → ¬ k = r1 := fun k hk z => by have := HB.out.nl k hk; have := HB.out.h1; omega
  have n_b : ∀ k, RIn ur ua k → ¬ k = r1 := fun k hk z => by have := HB.out.bl k hk; have := HB.out.h1; omega
  have n_t : ∀ k, sv.ownBlock = some k → ¬ k = r1 := fun k hk z => by have := HB.out.tl k hk; have := HB.out.h1; omega
  have g0 := HB.out.d0
  have g1 := HB.out.d1
  have g2 := HB.out.d2
  have gf := HB.out.df
  have bd := HBX.out 11 _ rfl
  have HPG := hide (parse_good s_)
  have HPC := hide (parseM_any W da cp s_ hl hcp (fun k c hc => by
    obtain ⟨g, off, e1, e2⟩ := hsrc k c hc
    exact ⟨g, off, e1, HB.out.ex.cell (fun e => e) e2⟩) hb)
  obtain ⟨⟨pid, pcs, per, pat⟩, hP⟩ : ∃ q, parseP s_ = q := ⟨_, rfl⟩
  rw [hP] at HPG HPC hper
  have HP := hide hP
  simp only [] at HPG HPC hper
  subst hper
  clear hP hl hcp hsrc hb
  go_wp2_with fail
  refine HPC.out.mono ?_
  rintro e W2 ⟨pv, rfl, hex2, hown2⟩
  obtain ⟨pa, pc, rfl⟩ := own_len hown2
  simp only [] at hown2
  have HOW2 := hide hown2
  obtain ⟨pn, hpn⟩ : ∃ n, pcs.length = n := ⟨_, rfl⟩
  have HPN := hide hpn
  simp only [hpn]
  rw [hpn] at HOW2
  clear hpn
  have E1 : Ex (fun _ => False) W (W2.alloc (.cells #[.int .i64 pid, .slice pa pn pc] 52)) := hex2.alloc _
  have HSB := hide (HB.out.ss.new E1)
  have HEB : Hid (Ex (fun k => k = s ∨ False) w (W2.alloc (.cells #[.int .i64 pid, .slice pa pn pc] 52))) := (HB.out.ex.trans E1).mono (fun _ z => z.elim)
  have HOC : Hid ((W2.alloc (.cells #[.int .i64 pid, .slice pa pn pc] 52)).ownsRow W.heap.size 45 9 (.slice pa pn pc) pcs.length (flatC pcs)) := by
    have := own_kept HOW2.out ((Ex.refl (fun _ => False) W2).alloc (.cells #[.int .i64 pid, .slice pa pn pc] 52)) (fun _ _ e => e)
    rw [← HPN.out] at this ⊢
    exact this
  have hr1W : r1 < W.heap.size := World.block_lt_of_cell? _ _ g0
  have g0 := E1.cell (fun e => e) g0
  have g1 := E1.cell (fun e => e) g1
  have g2 := E1.cell (fun e => e) g2
  have gf := E1.frw (fun e => e) hr1W gf
  have b0 := new_cells W2 [.int .i64 pid, .slice pa pn pc] 52 0 _ rfl
  have b1 := new_cells W2 [.int .i64 pid, .slice pa pn pc] 52 1 _ rfl
  simp only [Addr.add_mid, Nat.zero_add] at b0 b1
  clear hex2 hown2 HPC E1 bd k0 HOW2
  go_upto_region 4 with fail
  generalize W2.alloc (.cells #[.int .i64 pid, .slice pa pn pc] 52) = WB at *
  generalize W2.heap.size = pb at *
  obtain ⟨hidr, hgd, _⟩ := HPG.out.2 (by first | rfl | trivial)
  have HCL := hide (printM_any WB _ pid (.slice pa pn pc) pcs HOC.out hidr HPG.out.1 hgd)
  clear hidr hgd
  go_wp2_with fail
  refine HCL.out.mono ?_
  rintro e W5 ⟨rfl, hex5⟩
  have hr1b : r1 < WB.heap.size := World.block_lt_of_cell? _ _ g0
  have q0 := hex5.cell (fun e => e) g0
  have q1 := hex5.cell (fun e => e) g1
  have q2 := hex5.cell (fun e => e) g2
  have qf := hex5.frw (fun e => e) hr1b gf
  have HS5 := hide (HSB.out.new hex5)
  have HE5 : Hid (Ex (fun k => k = s ∨ False) w W5) := HEB.out.trans (hex5.mono (fun _ z => z.elim))
  obtain ⟨T, hT⟩ : ∃ T, strOfNums (printT pid pcs) = T := ⟨_, rfl⟩
  rw [hT]
  have HT := hide hT
  clear hex5 HCL g0 g1 g2 gf b0 b1 hT
  go_wp2_with (with_reducible refine bodyPost_ret (v := ansV 0 0 T) ?hr ?hd ?hp)
  case hr => simp [results, Try.results11, go_sem, ansV, q0, q1, q2]
  case hd => rfl
  case hp => exact by rw [HP.out]; exact ⟨by rw [← HT.out], ((HE5.out.setNew (p := r1) hr1w _).setNew (p := r1) hr1w _).setNew (p := r1) hr1w _, vr, va, ur, ua, sv, HS5.out.r1 n_s n_n n_b n_t _ _ _, fun k hk => .inl hk, fun k hk => .inr (.inl hk), fun k hk => .inl hk⟩
set_option linter.unusedSimpArgs false in
set_option maxRecDepth 100000 in
set_option maxHeartbeats 16000000 in
theorem q_sub_ok (w : World) (s : Nat) (y : SM) (vr va ur ua : Nat → Value) (sv : Value) (a : Int) (c : Chg) (da : Option Addr) (s_ : List Int) (cp : Nat) (h : SQ w s y vr va ur ua sv) (hl : s_.length ≤ 65536) (hcp : s_.length ≤ cp) (hsrc : SrcAt w da s_) (hb : Byt s_) (hper : (parseP s_).er = 0) :
    Calls Try.prog 11 #[.pointer (some ⟨s, 0, none⟩), .agg #[.int .i64 1, .int .i64 a, .int .i64 c.kd, .int .i64 c.dv, .int .i64 c.hp, .int .i64 c.pr, .int .i64 c.ln, .int .i64 c.ix, .int .i64 c.cl, .bool c.pm, .bool c.up, .slice da s_.length cp]] w (QPost w s vr va ur ua sv (fun _ => False) (applyM y (parseP s_).id (parseP s_).cs)) := by
  obtain ⟨W, hW⟩ : ∃ W, W = (w.alloc (.cells #[.int .i64 1, .int .i64 a, .int .i64 c.kd, .int .i64 c.dv, .int .i64 c.hp, .int .i64 c.pr, .int .i64 c.ln, .int .i64 c.ix, .int .i64 c.cl, .bool c.pm, .bool c.up, .slice da s_.length cp] 48)).alloc (.cells #[.int .i64 0, .int .i64 0, .string ⟨#[]⟩] 40) := ⟨_, rfl⟩
  have HB : Hid (QB w W s y vr va ur ua sv w.heap.size (w.heap.size + 1)) := by rw [hW]; exact qb_new h _
  have HBX : Hid (∀ j u, (#[.int .i64 1, .int .i64 a, .int .i64 c.kd, .int .i64 c.dv, .int .i64 c.hp, .int .i64 c.pr, .int .i64 c.ln, .int .i64 c.ix, .int .i64 c.cl, .bool c.pm, .bool c.up, .slice da s_.length cp].toList)[j]? = some u → W.cell? ⟨w.heap.size, j, none⟩ = some u) := fun j u hj => by
    have h1 := new_cells w [.int .i64 1, .int .i64 a, .int .i64 c.kd, .int .i64 c.dv, .int .i64 c.hp, .int .i64 c.pr, .int .i64 c.ln, .int .i64 c.ix, .int .i64 c.cl, .bool c.pm, .bool c.up, .slice da s_.length cp] 48 j u hj
    rw [Addr.add_mid, Nat.zero_add] at h1
    rw [hW]
    exact ((Ex.refl (fun _ => False) _).alloc _).cell (fun e => e) h1
  go_enter Try.func11, Try.ntmps11
  go_upto_region 1 with fail
  rw [← hW]
  clear hW h
  obtain ⟨r1, hr1⟩ : ∃ r, w.heap.size + 1 = r := ⟨_, rfl⟩
  rw [hr1] at HB ⊢
  obtain ⟨r0, hr0⟩ : ∃ r, w.heap.size = r := ⟨_, rfl⟩
  rw [hr0] at HB HBX ⊢
  clear hr0 hr1
  have k0 := HBX.out 0 _ rfl
  have hr1w : w.heap.size ≤ r1 := by have := HB.out.h1; omega
  have n_s : ¬ s = r1 := by have := HB.out.sl; have := HB.out.h1; omega
  have n_n : ∀ k, RIn vr va k → ¬ k = r1 := fun k hk z => by have := HB.out.nl k hk; have := HB.out.h1; omega
  have n_b : ∀ k, RIn ur ua k → ¬ k = r1 := fun k hk z => by have := HB.out.bl k hk; have := HB.out.h1; omega
  have n_t : ∀ k, sv.ownBlock = some k → ¬ k = r1 := fun k hk z => by have := HB.out.tl k hk; have := HB.out.h1; omega
  have g0 := HB.out.d0
  have g1 := HB.out.d1
  have g2 := HB.out.d2
  have gf := HB.out.df
  have bd := HBX.out 11 _ rfl
  have HPG := hide (parse_good s_)
  have HPC := hide (parseM_any W da cp s_ hl hcp (fun k c hc => by
    obtain ⟨g, off, e1, e2⟩ := hsrc k c hc
    exact ⟨g, off, e1, HB.out.ex.cell (fun e => e) e2⟩) hb)
  obtain ⟨⟨pid, pcs, per, pat⟩, hP⟩ : ∃ q, parseP s_ = q := ⟨_, rfl⟩
  rw [hP] at HPG HPC hper
  have HP := hide hP
  simp only [] at HPG HPC hper
  subst hper
  clear hP hl hcp hsrc hb
  go_wp2_with fail
  refine HPC.out.mono ?_
  rintro e W2 ⟨pv, rfl, hex2, hown2⟩
  obtain ⟨pa, pc, rfl⟩ := own_len hown2
  simp only [] at hown2
  have HOW2 := hide hown2
  obtain ⟨pn, hpn⟩ : ∃ n, pcs.length = n := ⟨_, rfl⟩
  have HPN := hide hpn
  simp only [hpn]
  rw [hpn] at HOW2
  clear hpn
  have E1 : Ex (fun _ => False) W (W2.alloc (.cells #[.int .i64 pid, .slice pa pn pc] 52)) := hex2.alloc _
  have HSB := hide (HB.out.ss.new E1)
  have HEB : Hid (Ex (fun k => k = s ∨ False) w (W2.alloc (.cells #[.int .i64 pid, .slice pa pn pc] 52))) := (HB.out.ex.trans E1).mono (fun _ z => z.elim)
  have HOC : Hid ((W2.alloc (.cells #[.int .i64 pid, .slice pa pn pc] 52)).ownsRow W.heap.size 45 9 (.slice pa pn pc) pcs.length (flatC pcs)) := by
    have := own_kept HOW2.out ((Ex.refl (fun _ => False) W2).alloc (.cells #[.int .i64 pid, .slice pa pn pc] 52)) (fun _ _ e => e)
    rw [← HPN.out] at this ⊢
    exact this
  have hr1W : r1 < W.heap.size := World.block_lt_of_cell? _ _ g0
  have g0 := E1.cell (fun e => e) g0
  have g1 := E1.cell (fun e => e) g1
  have g2 := E1.cell (fun e => e) g2
  have gf := E1.frw (fun e => e) hr1W gf
  have b0 := new_cells W2 [.int .i64 pid, .slice pa pn pc] 52 0 _ rfl
  have b1 := new_cells W2 [.int .i64 pid, .slice pa pn pc] 52 1 _ rfl
  simp only [Addr.add_mid, Nat.zero_add] at b0 b1
  clear hex2 hown2 HPC E1 bd k0 HOW2
  go_upto_region 9 with fail
  generalize W2.alloc (.cells #[.int .i64 pid, .slice pa pn pc] 52) = WB at *
  generalize W2.heap.size = pb at *
  have HCL := hide (applyQ_any WB s _ y vr va ur ua sv pid _ pcs HSB.out HOC.out (Nat.le_trans HPG.out.1 (by decide)))
  obtain ⟨RR, hRR⟩ : ∃ q, applyM y pid pcs = q := ⟨_, rfl⟩
  rw [hRR] at HCL
  have HRR := hide hRR
  clear hRR
  go_wp2_with fail
  refine HCL.out.mono ?_
  rintro e W5 ⟨rfl, hex5, xr, xa, zr, za, sv5, hsq5, hn5, hb5, ht5⟩
  have HS5 := hide hsq5
  have hrs : ¬ (r1 = s ∨ False) := fun z => by rcases z with z | z; exact n_s z.symm; exact z
  have hr1b : r1 < WB.heap.size := World.block_lt_of_cell? _ _ g0
  have q0 := hex5.cell hrs g0
  have q1 := hex5.cell hrs g1
  have q2 := hex5.cell hrs g2
  have qf := hex5.frw hrs hr1b gf
  have HE5 : Hid (Ex (fun k => k = s ∨ False) w W5) := HEB.out.trans hex5
  have hsz : w.heap.size ≤ WB.heap.size := HEB.out.size
  have HN5 : Hid (∀ k, RIn xr xa k → RIn vr va k ∨ RIn ur ua k ∨ WB.heap.size ≤ k) := hn5
  have HB5 : Hid (∀ k, RIn zr za k → RIn vr va k ∨ RIn ur ua k ∨ WB.heap.size ≤ k) := hb5
  have m_n : ∀ k, RIn xr xa k → ¬ k = r1 := fun k hk z => by
    rcases HN5.out k hk with q | q | q
    · exact n_n k q z
    · exact n_b k q z
    · omega
  have m_b : ∀ k, RIn zr za k → ¬ k = r1 := fun k hk z => by
    rcases HB5.out k hk with q | q | q
    · exact n_n k q z
    · exact n_b k q z
    · omega
  have HT5 : Hid (∀ k, sv5.ownBlock = some k → sv.ownBlock = some k ∨ WB.heap.size ≤ k) := ht5
  have m_t : ∀ k, sv5.ownBlock = some k → ¬ k = r1 := fun k hk z => by
    rcases HT5.out k hk with q | q
    · exact n_t k q z
    · omega
  clear hex5 hsq5 hn5 hb5 ht5 HCL g0 g1 g2 gf HSB HEB
  obtain ⟨Y5, ⟨ae, at5, ax⟩⟩ := RR
  unfold ansV
  simp only []
  go_wp2_with (with_reducible refine bodyPost_ret (v := ansV ae at5 ax) ?hr ?hd ?hp)
  case hr => simp [results, Try.results11, go_sem, ansV, q0, q1, q2]
  case hd => rfl
  case hp =>
    rw [HP.out]
    simp only []
    rw [HRR.out]
    refine ⟨rfl, ((HE5.out.setNew (p := r1) hr1w _).setNew (p := r1) hr1w _).setNew (p := r1) hr1w _, xr, xa, zr, za, sv5, HS5.out.r1 n_s m_n m_b m_t _ _ _, fun k hk => ?_, fun k hk => ?_, fun k hk => ?_⟩
    · rcases HN5.out k hk with q | q | q
      · exact .inl q
      · exact .inr (.inl q)
      · exact .inr (.inr (by omega))
    · rcases HB5.out k hk with q | q | q
      · exact .inl q
      · exact .inr (.inl q)
      · exact .inr (.inr (by omega))
    · rcases HT5.out k hk with q | q
      · exact .inl q
      · exact .inr (by omega)
end Go.Proofs.Qxb6500778a
