import Derived.Test.Qxb6500778aS5
namespace Go.Proofs.Qxb6500778a
open Go.RowKit

set_option linter.unusedSimpArgs false in
set_option maxRecDepth 100000 in
set_option maxHeartbeats 16000000 in
theorem step_sub_bad (w : World) (s b : Nat) (x : Sn) (vr va : Nat → Value) (sv uv : Value) (a : Int) (c : Chg) (da : Option Addr) (s_ : List Int) (cp : Nat) (h : SS w s b x vr va sv uv) (hl : s_.length ≤ 9223372036854775807) (hcp : s_.length ≤ cp) (hsrc : SrcAt w da s_) (hper : (parseP s_).er ≠ 0) :
    Calls Try.prog 10 #[.pointer (some ⟨s, 0, none⟩), .agg #[.int .i64 1, .int .i64 a, .int .i64 c.kd, .int .i64 c.dv, .int .i64 c.hp, .int .i64 c.pr, .int .i64 c.ln, .int .i64 c.ix, .int .i64 c.cl, .bool c.pm, .bool c.up, .slice da s_.length cp]] w (TPost w s b vr va sv uv (fun _ => False) (x) (ansV (parseP s_).er (parseP s_).at_ ⟨#[]⟩)) := by
  obtain ⟨W, hW⟩ : ∃ W, W = (w.alloc (.cells #[.int .i64 1, .int .i64 a, .int .i64 c.kd, .int .i64 c.dv, .int .i64 c.hp, .int .i64 c.pr, .int .i64 c.ln, .int .i64 c.ix, .int .i64 c.cl, .bool c.pm, .bool c.up, .slice da s_.length cp] 48)).alloc (.cells #[.int .i64 0, .int .i64 0, .string ⟨#[]⟩] 40) := ⟨_, rfl⟩
  have HB : Hid (SB w W s b x vr va sv uv w.heap.size (w.heap.size + 1)) := by rw [hW]; exact sb_new h _
  have HBX : Hid (∀ j u, (#[.int .i64 1, .int .i64 a, .int .i64 c.kd, .int .i64 c.dv, .int .i64 c.hp, .int .i64 c.pr, .int .i64 c.ln, .int .i64 c.ix, .int .i64 c.cl, .bool c.pm, .bool c.up, .slice da s_.length cp].toList)[j]? = some u → W.cell? ⟨w.heap.size, j, none⟩ = some u) := fun j u hj => by
    have h1 := new_cells w [.int .i64 1, .int .i64 a, .int .i64 c.kd, .int .i64 c.dv, .int .i64 c.hp, .int .i64 c.pr, .int .i64 c.ln, .int .i64 c.ix, .int .i64 c.cl, .bool c.pm, .bool c.up, .slice da s_.length cp] 48 j u hj
    rw [Addr.add_mid, Nat.zero_add] at h1
    rw [hW]
    exact ((Ex.refl (fun _ => False) _).alloc _).cell (fun e => e) h1
  go_enter Try.func10, Try.ntmps10
  go_upto_region 1 with fail
  rw [← hW]
  clear hW h
  obtain ⟨r1, hr1⟩ : ∃ r, w.heap.size + 1 = r := ⟨_, rfl⟩
  rw [hr1] at HB ⊢
  obtain ⟨r0, hr0⟩ : ∃ r, w.heap.size = r := ⟨_, rfl⟩
  rw [hr0] at HB HBX ⊢
  clear hr0 hr1
  have k0 := HBX.out 0 _ rfl
  have hr1w : w.heap.size ≤ r1 := by have := HB.out.h1; omega
  have n_s : ¬ s = r1 := by have := HB.out.sl; omega
  have n_f : ∀ k, Foot b vr va k → ¬ k = r1 := fun k hk z => by have := HB.out.fl k hk; omega
  have n_t : ∀ k, sv.ownBlock = some k → ¬ k = r1 := fun k hk z => by have := HB.out.tl k hk; omega
  have n_u : ∀ k, uv.ownBlock = some k → ¬ k = r1 := fun k hk z => by have := HB.out.ul k hk; omega
  have k11 := HBX.out 11 _ rfl
  have HPS := hide (parse_any W da cp s_ hl hcp (fun i y hy => by
    obtain ⟨g, off, e, hx⟩ := hsrc i y hy
    exact ⟨g, off, e, HB.out.ex.cell (fun e => e) hx⟩))
  obtain ⟨pid, pcs, per, pat, hP⟩ : ∃ q r t u, parseP s_ = ⟨q, r, t, u⟩ := ⟨_, _, _, _, rfl⟩
  have HPG := hide (parse_good s_)
  rw [hP] at HPS HPG hper
  simp only [] at HPG hper
  have HP := hide hP
  have hpb : (per != 0) = true := by simp [hper]
  clear hP hsrc hl hcp
  go_wp2_with fail
  refine HPS.out.mono ?_
  rintro e w3 ⟨v, rfl, hbel, hown⟩
  obtain ⟨sa, sc, rfl⟩ := own_len hown
  simp only [] at hown ⊢
  have HE3 : Hid (Ex (fun _ => False) W (w3.alloc (.cells #[.int .i64 pid, .slice sa pcs.length sc] 52))) := (Ex.of hbel).alloc _
  have HOW := hide (hown.alloc (.cells #[.int .i64 pid, .slice sa pcs.length sc] 52))
  have hn0 := new_cells w3 [.int .i64 pid, .slice sa pcs.length sc] 52 0 _ rfl
  have hn1 := new_cells w3 [.int .i64 pid, .slice sa pcs.length sc] 52 1 _ rfl
  simp only [Addr.add_mid, Nat.zero_add] at hn0 hn1
  clear hbel hown HPS k11
  go_upto_region 9 with fail
  generalize w3.alloc (.cells #[.int .i64 pid, .slice sa pcs.length sc] 52) = W3 at *
  generalize w3.heap.size = r8 at *
  have HS3 := hide (HB.out.ss.new HE3.out)
  have hr1W : r1 < W.heap.size := World.block_lt_of_cell? _ _ HB.out.d0
  have g0 := HE3.out.cell (fun e => e) HB.out.d0
  have g1 := HE3.out.cell (fun e => e) HB.out.d1
  have g2 := HE3.out.cell (fun e => e) HB.out.d2
  have gf := fun j => (HE3.out.frozen (q := r1) (j := j) (fun e => e) hr1W).trans (HB.out.df j)
  have HEB : Hid (Ex (fun k => k = s ∨ k = b ∨ False) w W3) := (HB.out.ex.trans HE3.out).mono (fun _ z => z.elim)
  clear hn0 hn1
  go_wp2
  refine bodyPost_ret (v := ansV per pat ⟨#[]⟩) (by simp [results, Try.results10, go_sem, ansV, g0, g1, g2]) rfl ⟨by rw [HP.out], ((HEB.out.setNew (p := r1) hr1w _).setNew (p := r1) hr1w _).setNew (p := r1) hr1w _, vr, va, sv, uv, HS3.out.r1 n_s n_f n_t n_u _ _ _, fun k hk => .inl hk, fun k hk => .inl hk, fun k hk => .inl hk⟩
set_option linter.unusedSimpArgs false in
set_option maxRecDepth 100000 in
set_option maxHeartbeats 16000000 in
theorem step_par_bad (w : World) (s b : Nat) (x : Sn) (vr va : Nat → Value) (sv uv : Value) (a : Int) (c : Chg) (da : Option Addr) (s_ : List Int) (cp : Nat) (h : SS w s b x vr va sv uv) (hl : s_.length ≤ 9223372036854775807) (hcp : s_.length ≤ cp) (hsrc : SrcAt w da s_) (hper : (parseP s_).er ≠ 0) :
    Calls Try.prog 10 #[.pointer (some ⟨s, 0, none⟩), .agg #[.int .i64 0, .int .i64 a, .int .i64 c.kd, .int .i64 c.dv, .int .i64 c.hp, .int .i64 c.pr, .int .i64 c.ln, .int .i64 c.ix, .int .i64 c.cl, .bool c.pm, .bool c.up, .slice da s_.length cp]] w (TPost w s b vr va sv uv (fun _ => False) (x) (ansV (parseP s_).er (parseP s_).at_ ⟨#[]⟩)) := by
  obtain ⟨W, hW⟩ : ∃ W, W = (w.alloc (.cells #[.int .i64 0, .int .i64 a, .int .i64 c.kd, .int .i64 c.dv, .int .i64 c.hp, .int .i64 c.pr, .int .i64 c.ln, .int .i64 c.ix, .int .i64 c.cl, .bool c.pm, .bool c.up, .slice da s_.length cp] 48)).alloc (.cells #[.int .i64 0, .int .i64 0, .string ⟨#[]⟩] 40) := ⟨_, rfl⟩
  have HB : Hid (SB w W s b x vr va sv uv w.heap.size (w.heap.size + 1)) := by rw [hW]; exact sb_new h _
  have HBX : Hid (∀ j u, (#[.int .i64 0, .int .i64 a, .int .i64 c.kd, .int .i64 c.dv, .int .i64 c.hp, .int .i64 c.pr, .int .i64 c.ln, .int .i64 c.ix, .int .i64 c.cl, .bool c.pm, .bool c.up, .slice da s_.length cp].toList)[j]? = some u → W.cell? ⟨w.heap.size, j, none⟩ = some u) := fun j u hj => by
    have h1 := new_cells w [.int .i64 0, .int .i64 a, .int .i64 c.kd, .int .i64 c.dv, .int .i64 c.hp, .int .i64 c.pr, .int .i64 c.ln, .int .i64 c.ix, .int .i64 c.cl, .bool c.pm, .bool c.up, .slice da s_.length cp] 48 j u hj
    rw [Addr.add_mid, Nat.zero_add] at h1
    rw [hW]
    exact ((Ex.refl (fun _ => False) _).alloc _).cell (fun e => e) h1
  go_enter Try.func10, Try.ntmps10
  go_upto_region 1 with fail
  rw [← hW]
  clear hW h
  obtain ⟨r1, hr1⟩ : ∃ r, w.heap.size + 1 = r := ⟨_, rfl⟩
  rw [hr1] at HB ⊢
  obtain ⟨r0, hr0⟩ : ∃ r, w.heap.size = r := ⟨_, rfl⟩
  rw [hr0] at HB HBX ⊢
  clear hr0 hr1
  have k0 := HBX.out 0 _ rfl
  have hr1w : w.heap.size ≤ r1 := by have := HB.out.h1; omega
  have n_s : ¬ s = r1 := by have := HB.out.sl; omega
  have n_f : ∀ k, Foot b vr va k → ¬ k = r1 := fun k hk z => by have := HB.out.fl k hk; omega
  have n_t : ∀ k, sv.ownBlock = some k → ¬ k = r1 := fun k hk z => by have := HB.out.tl k hk; omega
  have n_u : ∀ k, uv.ownBlock = some k → ¬ k = r1 := fun k hk z => by have := HB.out.ul k hk; omega
  have k11 := HBX.out 11 _ rfl
  have HPS := hide (parse_any W da cp s_ hl hcp (fun i y hy => by
    obtain ⟨g, off, e, hx⟩ := hsrc i y hy
    exact ⟨g, off, e, HB.out.ex.cell (fun e => e) hx⟩))
  obtain ⟨pid, pcs, per, pat, hP⟩ : ∃ q r t u, parseP s_ = ⟨q, r, t, u⟩ := ⟨_, _, _, _, rfl⟩
  have HPG := hide (parse_good s_)
  rw [hP] at HPS HPG hper
  simp only [] at HPG hper
  have HP := hide hP
  have hpb : (per != 0) = true := by simp [hper]
  clear hP hsrc hl hcp
  go_wp2_with fail
  refine HPS.out.mono ?_
  rintro e w3 ⟨v, rfl, hbel, hown⟩
  obtain ⟨sa, sc, rfl⟩ := own_len hown
  simp only [] at hown ⊢
  have HE3 : Hid (Ex (fun _ => False) W (w3.alloc (.cells #[.int .i64 pid, .slice sa pcs.length sc] 52))) := (Ex.of hbel).alloc _
  have HOW := hide (hown.alloc (.cells #[.int .i64 pid, .slice sa pcs.length sc] 52))
  have hn0 := new_cells w3 [.int .i64 pid, .slice sa pcs.length sc] 52 0 _ rfl
  have hn1 := new_cells w3 [.int .i64 pid, .slice sa pcs.length sc] 52 1 _ rfl
  simp only [Addr.add_mid, Nat.zero_add] at hn0 hn1
  clear hbel hown HPS k11
  go_upto_region 4 with fail
  generalize w3.alloc (.cells #[.int .i64 pid, .slice sa pcs.length sc] 52) = W3 at *
  generalize w3.heap.size = r8 at *
  have HS3 := hide (HB.out.ss.new HE3.out)
  have hr1W : r1 < W.heap.size := World.block_lt_of_cell? _ _ HB.out.d0
  have g0 := HE3.out.cell (fun e => e) HB.out.d0
  have g1 := HE3.out.cell (fun e => e) HB.out.d1
  have g2 := HE3.out.cell (fun e => e) HB.out.d2
  have gf := fun j => (HE3.out.frozen (q := r1) (j := j) (fun e => e) hr1W).trans (HB.out.df j)
  have HEB : Hid (Ex (fun k => k = s ∨ k = b ∨ False) w W3) := (HB.out.ex.trans HE3.out).mono (fun _ z => z.elim)
  clear hn0 hn1
  go_wp2
  refine bodyPost_ret (v := ansV per pat ⟨#[]⟩) (by simp [results, Try.results10, go_sem, ansV, g0, g1, g2]) rfl ⟨by rw [HP.out], ((HEB.out.setNew (p := r1) hr1w _).setNew (p := r1) hr1w _).setNew (p := r1) hr1w _, vr, va, sv, uv, HS3.out.r1 n_s n_f n_t n_u _ _ _, fun k hk => .inl hk, fun k hk => .inl hk, fun k hk => .inl hk⟩
set_option linter.unusedSimpArgs false in
set_option maxRecDepth 100000 in
set_option maxHeartbeats 16000000 in
theorem step_sub_ok (w : World) (s b : Nat) (x : Sn) (vr va : Nat → Value) (sv uv : Value) (a : Int) (c : Chg) (da : Option Addr) (s_ : List Int) (cp : Nat) (h : SS w s b x vr va sv uv) (hl : s_.length ≤ 9223372036854775807) (hcp : s_.length ≤ cp) (hsrc : SrcAt w da s_) (hper : (parseP s_).er = 0) :
    Calls Try.prog 10 #[.pointer (some ⟨s, 0, none⟩), .agg #[.int .i64 1, .int .i64 a, .int .i64 c.kd, .int .i64 c.dv, .int .i64 c.hp, .int .i64 c.pr, .int .i64 c.ln, .int .i64 c.ix, .int .i64 c.cl, .bool c.pm, .bool c.up, .slice da s_.length cp]] w (TPost w s b vr va sv uv (fun _ => False) (applyS x (parseP s_).id (parseP s_).cs) (ansV (runP x.N (parseP s_).id (parseP s_).cs).2.2.1 (runP x.N (parseP s_).id (parseP s_).cs).2.2.2 ⟨#[]⟩)) := by
  obtain ⟨W, hW⟩ : ∃ W, W = (w.alloc (.cells #[.int .i64 1, .int .i64 a, .int .i64 c.kd, .int .i64 c.dv, .int .i64 c.hp, .int .i64 c.pr, .int .i64 c.ln, .int .i64 c.ix, .int .i64 c.cl, .bool c.pm, .bool c.up, .slice da s_.length cp] 48)).alloc (.cells #[.int .i64 0, .int .i64 0, .string ⟨#[]⟩] 40) := ⟨_, rfl⟩
  have HB : Hid (SB w W s b x vr va sv uv w.heap.size (w.heap.size + 1)) := by rw [hW]; exact sb_new h _
  have HBX : Hid (∀ j u, (#[.int .i64 1, .int .i64 a, .int .i64 c.kd, .int .i64 c.dv, .int .i64 c.hp, .int .i64 c.pr, .int .i64 c.ln, .int .i64 c.ix, .int .i64 c.cl, .bool c.pm, .bool c.up, .slice da s_.length cp].toList)[j]? = some u → W.cell? ⟨w.heap.size, j, none⟩ = some u) := fun j u hj => by
    have h1 := new_cells w [.int .i64 1, .int .i64 a, .int .i64 c.kd, .int .i64 c.dv, .int .i64 c.hp, .int .i64 c.pr, .int .i64 c.ln, .int .i64 c.ix, .int .i64 c.cl, .bool c.pm, .bool c.up, .slice da s_.length cp] 48 j u hj
    rw [Addr.add_mid, Nat.zero_add] at h1
    rw [hW]
    exact ((Ex.refl (fun _ => False) _).alloc _).cell (fun e => e) h1
  go_enter Try.func10, Try.ntmps10
  go_upto_region 1 with fail
  rw [← hW]
  clear hW h
  obtain ⟨r1, hr1⟩ : ∃ r, w.heap.size + 1 = r := ⟨_, rfl⟩
  rw [hr1] at HB ⊢
  obtain ⟨r0, hr0⟩ : ∃ r, w.heap.size = r := ⟨_, rfl⟩
  rw [hr0] at HB HBX ⊢
  clear hr0 hr1
  have k0 := HBX.out 0 _ rfl
  have hr1w : w.heap.size ≤ r1 := by have := HB.out.h1; omega
  have n_s : ¬ s = r1 := by have := HB.out.sl; omega
  have n_f : ∀ k, Foot b vr va k → ¬ k = r1 := fun k hk z => by have := HB.out.fl k hk; omega
  have n_t : ∀ k, sv.ownBlock = some k → ¬ k = r1 := fun k hk z => by have := HB.out.tl k hk; omega
  have n_u : ∀ k, uv.ownBlock = some k → ¬ k = r1 := fun k hk z => by have := HB.out.ul k hk; omega
  have k11 := HBX.out 11 _ rfl
  have HPS := hide (parse_any W da cp s_ hl hcp (fun i y hy => by
    obtain ⟨g, off, e, hx⟩ := hsrc i y hy
    exact ⟨g, off, e, HB.out.ex.cell (fun e => e) hx⟩))
  obtain ⟨pid, pcs, per, pat, hP⟩ : ∃ q r t u, parseP s_ = ⟨q, r, t, u⟩ := ⟨_, _, _, _, rfl⟩
  have HPG := hide (parse_good s_)
  rw [hP] at HPS HPG hper
  simp only [] at HPG hper
  have HP := hide hP
  subst hper
  clear hP hsrc hl hcp
  go_wp2_with fail
  refine HPS.out.mono ?_
  rintro e w3 ⟨v, rfl, hbel, hown⟩
  obtain ⟨sa, sc, rfl⟩ := own_len hown
  simp only [] at hown ⊢
  have HE3 : Hid (Ex (fun _ => False) W (w3.alloc (.cells #[.int .i64 pid, .slice sa pcs.length sc] 52))) := (Ex.of hbel).alloc _
  have HOW := hide (hown.alloc (.cells #[.int .i64 pid, .slice sa pcs.length sc] 52))
  have hn0 := new_cells w3 [.int .i64 pid, .slice sa pcs.length sc] 52 0 _ rfl
  have hn1 := new_cells w3 [.int .i64 pid, .slice sa pcs.length sc] 52 1 _ rfl
  simp only [Addr.add_mid, Nat.zero_add] at hn0 hn1
  clear hbel hown HPS k11
  go_upto_region 11 with fail
  generalize w3.alloc (.cells #[.int .i64 pid, .slice sa pcs.length sc] 52) = W3 at *
  generalize w3.heap.size = r8 at *
  have HS3 := hide (HB.out.ss.new HE3.out)
  have hr1W : r1 < W.heap.size := World.block_lt_of_cell? _ _ HB.out.d0
  have g0 := HE3.out.cell (fun e => e) HB.out.d0
  have g1 := HE3.out.cell (fun e => e) HB.out.d1
  have g2 := HE3.out.cell (fun e => e) HB.out.d2
  have gf := fun j => (HE3.out.frozen (q := r1) (j := j) (fun e => e) hr1W).trans (HB.out.df j)
  have HEB : Hid (Ex (fun k => k = s ∨ k = b ∨ False) w W3) := (HB.out.ex.trans HE3.out).mono (fun _ z => z.elim)
  have m_t := n_t
  have HTB : Hid (∀ k, (Value.slice sa pcs.length sc).ownBlock = some k → k ≠ b) := fun k hk z => by
    have h1 := (HOW.out.lt k hk).1
    have h2 := HB.out.ss.na.lt
    omega
  have hpl : pcs.length ≤ 1099511627776 := Nat.le_trans HPG.out.1 (by decide)
  have HCL := hide (applyS_any W3 s b _ _ vr va sv uv pid _ pcs HS3.out HOW.out HTB.out hpl)
  go_wp2_with fail
  refine HCL.out.mono ?_
  rintro e w5 ⟨rfl, hex5, vr', va', uv', hss5, hf5, hu5⟩
  have hbs := HS3.out.bs
  have hr1b : r1 < W3.heap.size := World.block_lt_of_cell? _ _ g0
  have q0 := hex5.cell (q := r1) (j := 0) (fun z => by have := HB.out.sl; have := HB.out.h1; rcases z with z | z <;> omega) g0
  have q1 := hex5.cell (q := r1) (j := 1) (fun z => by have := HB.out.sl; have := HB.out.h1; rcases z with z | z <;> omega) g1
  have q2 := hex5.cell (q := r1) (j := 2) (fun z => by have := HB.out.sl; have := HB.out.h1; rcases z with z | z <;> omega) g2
  have qf := fun j => (hex5.frozen (q := r1) (j := j) (fun z => by have := HB.out.sl; have := HB.out.h1; rcases z with z | z <;> omega) hr1b).trans (gf j)
  have HS5 := hide hss5
  have HE5 := hide (HEB.out.trans (hex5.mono (fun k hk => by rcases hk with hk | hk; exact .inl hk; exact .inr (.inl hk))))
  have m_f : ∀ k, Foot b vr' va' k → ¬ k = r1 := fun k hk z => by
    rcases hf5 k hk with y | y
    · exact n_f k y z
    · omega
  have m_u : ∀ k, uv'.ownBlock = some k → ¬ k = r1 := fun k hk z => by
    rcases hu5 k hk with y | y
    · exact n_u k y z
    · omega
  have HFT5 : Hid (∀ k, Foot b vr' va' k → Foot b vr va k ∨ w.heap.size ≤ k) := fun k hk => by
    rcases hf5 k hk with y | y
    · exact .inl y
    · right; have := HEB.out.size; omega
  have HUT5 : Hid (∀ k, uv'.ownBlock = some k → uv.ownBlock = some k ∨ w.heap.size ≤ k) := fun k hk => by
    rcases hu5 k hk with y | y
    · exact .inl y
    · right; have := HEB.out.size; omega
  clear hex5 hss5 hf5 hu5 HCL g0 g1 g2 gf hn0 hn1
  obtain ⟨er, her⟩ : ∃ y, (runP (x).N pid pcs).2.2.1 = y := ⟨_, rfl⟩
  obtain ⟨at_, hat⟩ : ∃ y, (runP (x).N pid pcs).2.2.2 = y := ⟨_, rfl⟩
  rw [her, hat]
  have HER : Hid ((runP x.N pid pcs).2.2.1 = er) := her
  have HAT : Hid ((runP x.N pid pcs).2.2.2 = at_) := hat
  clear her hat
  simp only [ansV]
  go_wp2
  refine bodyPost_ret (v := ansV er at_ ⟨#[]⟩) (by simp [results, Try.results10, go_sem, ansV, q0, q1, q2]) rfl ⟨by rw [HP.out]; rw [HER.out, HAT.out], ((HE5.out.setNew (p := r1) hr1w _).setNew (p := r1) hr1w _).setNew (p := r1) hr1w _, vr', va', sv, uv', by rw [HP.out]; exact HS5.out.r1 n_s m_f m_t m_u _ _ _, HFT5.out, fun k hk => .inl hk, HUT5.out⟩
set_option linter.unusedSimpArgs false in
set_option maxRecDepth 100000 in
set_option maxHeartbeats 16000000 in
theorem step_par_ok (w : World) (s b : Nat) (x : Sn) (vr va : Nat → Value) (sv uv : Value) (a : Int) (c : Chg) (da : Option Addr) (s_ : List Int) (cp : Nat) (h : SS w s b x vr va sv uv) (hl : s_.length ≤ 9223372036854775807) (hcp : s_.length ≤ cp) (hsrc : SrcAt w da s_) (hper : (parseP s_).er = 0) :
    Calls Try.prog 10 #[.pointer (some ⟨s, 0, none⟩), .agg #[.int .i64 0, .int .i64 a, .int .i64 c.kd, .int .i64 c.dv, .int .i64 c.hp, .int .i64 c.pr, .int .i64 c.ln, .int .i64 c.ix, .int .i64 c.cl, .bool c.pm, .bool c.up, .slice da s_.length cp]] w (TPost w s b vr va sv uv (fun _ => False) (x) (ansV 0 0 (strOfNums (printT (parseP s_).id (parseP s_).cs)))) := by
  obtain ⟨W, hW⟩ : ∃ W, W = (w.alloc (.cells #[.int .i64 0, .int .i64 a, .int .i64 c.kd, .int .i64 c.dv, .int .i64 c.hp, .int .i64 c.pr, .int .i64 c.ln, .int .i64 c.ix, .int .i64 c.cl, .bool c.pm, .bool c.up, .slice da s_.length cp] 48)).alloc (.cells #[.int .i64 0, .int .i64 0, .string ⟨#[]⟩] 40) := ⟨_, rfl⟩
  have HB : Hid (SB w W s b x vr va sv uv w.heap.size (w.heap.size + 1)) := by rw [hW]; exact sb_new h _
  have HBX : Hid (∀ j u, (#[.int .i64 0, .int .i64 a, .int .i64 c.kd, .int .i64 c.dv, .int .i64 c.hp, .int .i64 c.pr, .int .i64 c.ln, .int .i64 c.ix, .int .i64 c.cl, .bool c.pm, .bool c.up, .slice da s_.length cp].toList)[j]? = some u → W.cell? ⟨w.heap.size, j, none⟩ = some u) := fun j u hj => by
    have h1 := new_cells w [.int .i64 0, .int .i64 a, .int .i64 c.kd, .int .i64 c.dv, .int .i64 c.hp, .int .i64 c.pr, .int .i64 c.ln, .int .i64 c.ix, .int .i64 c.cl, .bool c.pm, .bool c.up, .slice da s_.length cp] 48 j u hj
    rw [Addr.add_mid, Nat.zero_add] at h1
    rw [hW]
    exact ((Ex.refl (fun _ => False) _).alloc _).cell (fun e => e) h1
  go_enter Try.func10, Try.ntmps10
  go_upto_region 1 with fail
  rw [← hW]
  clear hW h
  obtain ⟨r1, hr1⟩ : ∃ r, w.heap.size + 1 = r := ⟨_, rfl⟩
  rw [hr1] at HB ⊢
  obtain ⟨r0, hr0⟩ : ∃ r, w.heap.size = r := ⟨_, rfl⟩
  rw [hr0] at HB HBX ⊢
  clear hr0 hr1
  have k0 := HBX.out 0 _ rfl
  have hr1w : w.heap.size ≤ r1 := by have := HB.out.h1; omega
  have n_s : ¬ s = r1 := by have := HB.out.sl; omega
  have n_f : ∀ k, Foot b vr va k → ¬ k = r1 := fun k hk z => by have := HB.out.fl k hk; omega
  have n_t : ∀ k, sv.ownBlock = some k → ¬ k = r1 := fun k hk z => by have := HB.out.tl k hk; omega
  have n_u : ∀ k, uv.ownBlock = some k → ¬ k = r1 := fun k hk z => by have := HB.out.ul k hk; omega
  have k11 := HBX.out 11 _ rfl
  have HPS := hide (parse_any W da cp s_ hl hcp (fun i y hy => by
    obtain ⟨g, off, e, hx⟩ := hsrc i y hy
    exact ⟨g, off, e, HB.out.ex.cell (fun e => e) hx⟩))
  obtain ⟨pid, pcs, per, pat, hP⟩ : ∃ q r t u, parseP s_ = ⟨q, r, t, u⟩ := ⟨_, _, _, _, rfl⟩
  have HPG := hide (parse_good s_)
  rw [hP] at HPS HPG hper
  simp only [] at HPG hper
  have HP := hide hP
  subst hper
  clear hP hsrc hl hcp
  go_wp2_with fail
  refine HPS.out.mono ?_
  rintro e w3 ⟨v, rfl, hbel, hown⟩
  obtain ⟨sa, sc, rfl⟩ := own_len hown
  simp only [] at hown ⊢
  have HE3 : Hid (Ex (fun _ => False) W (w3.alloc (.cells #[.int .i64 pid, .slice sa pcs.length sc] 52))) := (Ex.of hbel).alloc _
  have HOW := hide (hown.alloc (.cells #[.int .i64 pid, .slice sa pcs.length sc] 52))
  have hn0 := new_cells w3 [.int .i64 pid, .slice sa pcs.length sc] 52 0 _ rfl
  have hn1 := new_cells w3 [.int .i64 pid, .slice sa pcs.length sc] 52 1 _ rfl
  simp only [Addr.add_mid, Nat.zero_add] at hn0 hn1
  clear hbel hown HPS k11
  go_upto_region 6 with fail
  generalize w3.alloc (.cells #[.int .i64 pid, .slice sa pcs.length sc] 52) = W3 at *
  generalize w3.heap.size = r8 at *
  have HS3 := hide (HB.out.ss.new HE3.out)
  have hr1W : r1 < W.heap.size := World.block_lt_of_cell? _ _ HB.out.d0
  have g0 := HE3.out.cell (fun e => e) HB.out.d0
  have g1 := HE3.out.cell (fun e => e) HB.out.d1
  have g2 := HE3.out.cell (fun e => e) HB.out.d2
  have gf := fun j => (HE3.out.frozen (q := r1) (j := j) (fun e => e) hr1W).trans (HB.out.df j)
  have HEB : Hid (Ex (fun k => k = s ∨ k = b ∨ False) w W3) := (HB.out.ex.trans HE3.out).mono (fun _ z => z.elim)
  obtain ⟨hidr, hgd, _⟩ := HPG.out.2 (by first | rfl | trivial)
  have HCL := hide (print_any W3 _ pid _ pcs HOW.out hidr HPG.out.1 hgd)
  clear hidr hgd
  go_wp2_with fail
  refine HCL.out.mono ?_
  rintro e w5 ⟨rfl, hex5⟩
  have hr1b : r1 < W3.heap.size := World.block_lt_of_cell? _ _ g0
  have q0 := hex5.cell (fun e => e) g0
  have q1 := hex5.cell (fun e => e) g1
  have q2 := hex5.cell (fun e => e) g2
  have qf := fun j => (hex5.frozen (q := r1) (j := j) (fun e => e) hr1b).trans (gf j)
  have HS5 := hide (HS3.out.new hex5)
  have HE5 := hide (HEB.out.trans (hex5.mono (fun _ z => z.elim)))
  obtain ⟨T, hT⟩ : ∃ T, strOfNums (printT pid pcs) = T := ⟨_, rfl⟩
  rw [hT]
  have HT := hide hT
  clear hex5 HCL g0 g1 g2 gf hn0 hn1 hT
  go_wp2
  refine bodyPost_ret (v := ansV 0 0 T) (by simp [results, Try.results10, go_sem, ansV, q0, q1, q2]) rfl ⟨by rw [HP.out]; rw [HT.out], ((HE5.out.setNew (p := r1) hr1w _).setNew (p := r1) hr1w _).setNew (p := r1) hr1w _, vr, va, sv, uv, HS5.out.r1 n_s n_f n_t n_u _ _ _, fun k hk => .inl hk, fun k hk => .inl hk, fun k hk => .inl hk⟩
end Go.Proofs.Qxb6500778a
