import Derived.Test.Qxb6500778aS5
namespace Go.Proofs.Qxb6500778a
open Go.RowKit

theorem applyP_ok {N : Nat → Dv} {id : Int} {C : List Chg} (h : NetOk N) : NetOk (applyP N id C) := by
  unfold applyP
  split
  · exact runP_ok h
  · exact h
theorem SS.drewN1 {w : World} {s b : Nat} {x : Sn} {vr va : Nat → Value} {sv uv : Value} (h : SS w s b x vr va sv uv) : SS w.drew s b x vr va sv uv := h.new (Ex.refl _ w).drew
theorem SS.grow {w w' : World} {s b : Nat} {x : Sn} {vr va : Nat → Value} {sv uv : Value} (h : SS w s b x vr va sv uv) (e : Ex (fun k => some k = sv.ownBlock) w w') (v : Value) (L : List Chg) (ho : w'.ownsRow (s + 1) 45 9 v L.length (flatC L)) (hv : ∀ k, v.ownBlock = some k → sv.ownBlock = some k ∨ w.heap.size ≤ k) : SS (w'.setCell ⟨s, 1, none⟩ v) s b { x with st := L } vr va v uv := by
  have ns : ¬ some s = sv.ownBlock := fun z => by have := (h.st.lt s z.symm).1; omega
  have e2 : Ex (fun k => k = s) w' (w'.setCell ⟨s, 1, none⟩ v) := (Ex.refl (fun k => k = s) w').set (p := s) rfl _
  have hc := e.cell ns h.c1
  have na' := h.na.keep e (fun k hk z => h.tf k z.symm hk)
  have us' := own_kept h.us e (fun k hk z => h.tu k z.symm hk)
  refine ⟨?_, World.cell?_setCell_same _ _ _ hc, ?_, ?_, ?_, fun j => by rw [set_frozen]; exact (e.frozen ns h.lt).trans (h.fz j), na'.keep e2 (fun k hk (z : k = s) => h.sf (by rw [← z]; exact hk)), h.ok, own_kept ho e2 (fun k hk (z : k = s) => by have := (ho.lt k hk).1; omega), own_kept us' e2 (fun k hk (z : k = s) => by have := (h.us.lt k hk).1; omega), h.bs, h.sf, fun k hk hk2 => ?_, h.uf, fun k hk hk2 => ?_, h.ul⟩
  · rw [set_at _ _ _ _ _ _ hc, if_neg (by omega)]; exact e.cell ns h.c0
  · rw [set_at _ _ _ _ _ _ hc, if_neg (by omega)]; exact e.cell ns h.c2
  · rw [set_at _ _ _ _ _ _ hc, if_neg (by omega)]; exact e.cell ns h.c3
  · rw [set_at _ _ _ _ _ _ hc, if_neg (by omega)]; exact e.cell ns h.c4
  · rcases hv k hk with z | z
    · exact h.tf k z hk2
    · have := h.na.foot_lt hk2; omega
  · rcases hv k hk with z | z
    · exact h.tu k z hk2
    · have := (h.us.lt k hk2).2; omega
set_option linter.unusedSimpArgs false in
set_option maxRecDepth 100000 in
set_option maxHeartbeats 16000000 in
theorem step_undo1 (w : World) (s b : Nat) (x : Sn) (vr va : Nat → Value) (sv uv : Value) (a : Int) (c : Chg) (da : Option Addr) (s_ : List Int) (cp : Nat) (h : SS w s b x vr va sv uv) (hcu : x.cu = true) :
    Calls Try.prog 10 #[.pointer (some ⟨s, 0, none⟩), .agg #[.int .i64 4, .int .i64 a, .int .i64 c.kd, .int .i64 c.dv, .int .i64 c.hp, .int .i64 c.pr, .int .i64 c.ln, .int .i64 c.ix, .int .i64 c.cl, .bool c.pm, .bool c.up, .slice da s_.length cp]] w (TPost w s b vr va sv uv (fun _ => False) ({ { x with cu := false } with N := applyP x.N x.uid x.us }) (ansV (runP x.N x.uid x.us).2.2.1 (runP x.N x.uid x.us).2.2.2 ⟨#[]⟩)) := by
  obtain ⟨W, hW⟩ : ∃ W, W = (w.alloc (.cells #[.int .i64 4, .int .i64 a, .int .i64 c.kd, .int .i64 c.dv, .int .i64 c.hp, .int .i64 c.pr, .int .i64 c.ln, .int .i64 c.ix, .int .i64 c.cl, .bool c.pm, .bool c.up, .slice da s_.length cp] 48)).alloc (.cells #[.int .i64 0, .int .i64 0, .string ⟨#[]⟩] 40) := ⟨_, rfl⟩
  have HB : Hid (SB w W s b x vr va sv uv w.heap.size (w.heap.size + 1)) := by rw [hW]; exact sb_new h _
  have HBX : Hid (∀ j u, (#[.int .i64 4, .int .i64 a, .int .i64 c.kd, .int .i64 c.dv, .int .i64 c.hp, .int .i64 c.pr, .int .i64 c.ln, .int .i64 c.ix, .int .i64 c.cl, .bool c.pm, .bool c.up, .slice da s_.length cp].toList)[j]? = some u → W.cell? ⟨w.heap.size, j, none⟩ = some u) := fun j u hj => by
    have h1 := new_cells w [.int .i64 4, .int .i64 a, .int .i64 c.kd, .int .i64 c.dv, .int .i64 c.hp, .int .i64 c.pr, .int .i64 c.ln, .int .i64 c.ix, .int .i64 c.cl, .bool c.pm, .bool c.up, .slice da s_.length cp] 48 j u hj
    rw [Addr.add_mid, Nat.zero_add] at h1
    rw [hW]
    exact ((Ex.refl (fun _ => False) _).alloc _).cell (fun e => e) h1
  go_enter Try.func10, Try.ntmps10
  go_upto_region 1 with fail
  rw [← hW]
  clear hW h
  obtain ⟨r1, hr1⟩ : ∃ r, w.heap.size + 1 = r := ⟨_, rfl⟩
  rw [hr1] at HB ⊢
  obtain ⟨r0, hr0⟩ : ∃ r, w.heap.size = r := ⟨_, rfl⟩
  rw [hr0] at HB HBX ⊢
  clear hr0 hr1
  have k0 := HBX.out 0 _ rfl
  have hr1w : w.heap.size ≤ r1 := by have := HB.out.h1; omega
  have n_s : ¬ s = r1 := by have := HB.out.sl; omega
  have n_f : ∀ k, Foot b vr va k → ¬ k = r1 := fun k hk z => by have := HB.out.fl k hk; omega
  have n_t : ∀ k, sv.ownBlock = some k → ¬ k = r1 := fun k hk z => by have := HB.out.tl k hk; omega
  have n_u : ∀ k, uv.ownBlock = some k → ¬ k = r1 := fun k hk z => by have := HB.out.ul k hk; omega
  have k4 := HB.out.ss.c4
  rw [hcu] at k4
  have hsf := HB.out.ss.fz
  obtain ⟨ua, uc, huv⟩ := own_len HB.out.ss.us
  obtain ⟨ul, hul⟩ : ∃ n, x.us.length = n := ⟨_, rfl⟩
  rw [hul] at huv
  have HSN := hide (HB.out.ss.put4 false)
  have hbs := HB.out.ss.bs
  have hsl := HB.out.sl
  have hr11 := HB.out.h1
  go_upto_region 22 with fail
  have EXS := hide ((Ex.refl (fun k => k = s) W).set (p := s) (j := 4) rfl (.bool false))
  have hr1W : r1 < W.heap.size := World.block_lt_of_cell? _ _ HB.out.d0
  have g0 := EXS.out.cell (q := r1) (fun z => n_s z.symm) HB.out.d0
  have g1 := EXS.out.cell (q := r1) (fun z => n_s z.symm) HB.out.d1
  have g2 := EXS.out.cell (q := r1) (fun z => n_s z.symm) HB.out.d2
  have gf := fun j => (EXS.out.frozen (q := r1) (j := j) (fun z => n_s z.symm) hr1W).trans (HB.out.df j)
  have HEB : Hid (Ex (fun k => k = s ∨ k = b ∨ False) w (W.setCell ⟨s, 4, none⟩ (.bool false))) := (HB.out.ex.mono (fun _ z => z.elim)).trans (EXS.out.mono (fun k hk => .inl hk))
  clear k4 hsf EXS k0
  generalize W.setCell ⟨s, 4, none⟩ (.bool false) = W1 at *
  have k0 := HSN.out.c0
  have k2 := HSN.out.c2
  have k3 := HSN.out.c3
  rw [huv] at k3
  simp only [] at k2
  have HCL := hide (apply_any W1.drew b _ x.N vr va x.uid uv x.us HSN.out.drewN1.na HSN.out.ok HSN.out.drewN1.us (Nat.le_trans HSN.out.ul (by decide)))
  rw [huv] at HCL
  have hsb : ¬ s = b := by omega
  refine wp_region_held_drew (S := fun w' => w'.cell? ⟨s, 0, none⟩ = some (.pointer (some ⟨b, 0, none⟩)) ∧ w'.cell? ⟨s, 2, none⟩ = some (.int .i64 x.uid) ∧ w'.cell? ⟨s, 3, none⟩ = some (.slice ua ul uc)) (by kernel_rfl) (And.intro k0 (And.intro k2 k3)) (fun hHeld => ?_)
  refine wpAnyH_take (i := 0) (v := ?_) rfl (by kernel_rfl) (by kernel_rfl) (by kernel_rfl) (fun _ _ _ h => h) (Or.inl ⟨by rfl, ?_⟩) (by assumption) ?_
  rotate_left
  · (intro w hSw; (try dsimp only at hSw); go_simp; try (with_reducible rfl))
  try simp only [Act.put, List.getElem_toArray, List.getElem_cons_zero, List.getElem_cons_succ, List.setIfInBounds_toArray, List.set_cons_zero, List.set_cons_succ]
  refine wpAnyH_take (i := 1) (v := ?_) rfl (by kernel_rfl) (by kernel_rfl) (by kernel_rfl) (fun _ _ _ h => h) (Or.inl ⟨by rfl, ?_⟩) (by assumption) ?_
  rotate_left
  · (intro w hSw; (try dsimp only at hSw); go_simp; try (with_reducible rfl))
  try simp only [Act.put, List.getElem_toArray, List.getElem_cons_zero, List.getElem_cons_succ, List.setIfInBounds_toArray, List.set_cons_zero, List.set_cons_succ]
  refine wpAnyH_take (i := 2) (v := ?_) rfl (by kernel_rfl) (by kernel_rfl) (by kernel_rfl) (fun _ _ _ h => h) (Or.inl ⟨by rfl, ?_⟩) (by assumption) ?_
  rotate_left
  · (intro w hSw; (try dsimp only at hSw); go_simp; try (with_reducible rfl))
  try simp only [Act.put, List.getElem_toArray, List.getElem_cons_zero, List.getElem_cons_succ, List.setIfInBounds_toArray, List.set_cons_zero, List.set_cons_succ]
  refine wpAnyH_take (i := 3) (v := ?_) rfl (by kernel_rfl) (by kernel_rfl) (by kernel_rfl) (fun _ _ _ h => h) (Or.inl ⟨by rfl, ?_⟩) (by assumption) ?_
  rotate_left
  · (intro w hSw; (try dsimp only at hSw); go_simp; try (with_reducible rfl))
  try simp only [Act.put, List.getElem_toArray, List.getElem_cons_zero, List.getElem_cons_succ, List.setIfInBounds_toArray, List.set_cons_zero, List.set_cons_succ]
  refine wpAnyH_take (i := 4) (v := ?_) rfl (by kernel_rfl) (by kernel_rfl) (by kernel_rfl) (fun _ _ _ h => h) (Or.inl ⟨by rfl, ?_⟩) (by assumption) ?_
  rotate_left
  · (intro w hSw; (try dsimp only at hSw); go_simp; try (with_reducible rfl))
  try simp only [Act.put, List.getElem_toArray, List.getElem_cons_zero, List.getElem_cons_succ, List.setIfInBounds_toArray, List.set_cons_zero, List.set_cons_succ]
  refine wpAnyH_take (i := 5) (v := ?_) rfl (by kernel_rfl) (by kernel_rfl) (by kernel_rfl) (fun _ _ _ h => h) (Or.inl ⟨by rfl, ?_⟩) (by assumption) ?_
  rotate_left
  · (intro w hSw; (try dsimp only at hSw); go_simp; try (with_reducible rfl))
  try simp only [Act.put, List.getElem_toArray, List.getElem_cons_zero, List.getElem_cons_succ, List.setIfInBounds_toArray, List.set_cons_zero, List.set_cons_succ]
  refine wpAnyH_take (i := 6) (v := ?_) rfl (by kernel_rfl) (by kernel_rfl) (by kernel_rfl) (fun _ _ _ h => h) (Or.inl ⟨by rfl, ?_⟩) (by assumption) ?_
  rotate_left
  · (intro w hSw; (try dsimp only at hSw); go_simp; try (with_reducible rfl))
  try simp only [Act.put, List.getElem_toArray, List.getElem_cons_zero, List.getElem_cons_succ, List.setIfInBounds_toArray, List.set_cons_zero, List.set_cons_succ]
  refine wpAnyH_take (i := 7) (v := ?_) rfl (by kernel_rfl) (by kernel_rfl) (by kernel_rfl) (fun _ _ _ h => h) (Or.inl ⟨by rfl, ?_⟩) (by assumption) ?_
  rotate_left
  · (intro w hSw; (try dsimp only at hSw); go_simp; try (with_reducible rfl))
  try simp only [Act.put, List.getElem_toArray, List.getElem_cons_zero, List.getElem_cons_succ, List.setIfInBounds_toArray, List.set_cons_zero, List.set_cons_succ]
  refine wpAnyH_ready (rs := [8]) (by kernel_rfl) (by simp) ?_
  refine (AllReadyH.cons rfl (fun K hK => ?_) AllReadyH.nil)
  · refine step_call rfl 20 #[.pointer (some ⟨b, 0, none⟩), .agg #[.int .i64 x.uid, .slice ua ul uc]] (by simp [go_sem]) HCL.out ?_
    rintro e w7 ⟨rfl, hex7, vr', va', hna7, hf7⟩
    refine ⟨_, rfl, ?_⟩
    refine hK.out _ _ ?_ (fun hHeld => ?_)
    · first | exact hHeld | exact ⟨hex7.cell hsb hHeld.1, hex7.cell hsb hHeld.2.1, hex7.cell hsb hHeld.2.2⟩
    clear hK K
    try simp only [Act.put, List.getElem_toArray, List.getElem_cons_zero, List.getElem_cons_succ, List.setIfInBounds_toArray, List.set_cons_zero, List.set_cons_succ]
    refine wpAnyH_take (i := 9) (v := ?_) rfl (by kernel_rfl) (by kernel_rfl) (by kernel_rfl) (fun _ _ _ h => h) (Or.inl ⟨by rfl, ?_⟩) (by assumption) ?_
    rotate_left
    · (intro w hSw; (try dsimp only at hSw); go_simp; try (with_reducible rfl))
    try simp only [Act.put, List.getElem_toArray, List.getElem_cons_zero, List.getElem_cons_succ, List.setIfInBounds_toArray, List.set_cons_zero, List.set_cons_succ]
    refine wpAnyH_take (i := 10) (v := ?_) rfl (by kernel_rfl) (by kernel_rfl) (by kernel_rfl) (fun _ _ _ h => h) (Or.inl ⟨by rfl, ?_⟩) (by assumption) ?_
    rotate_left
    · (intro w hSw; (try dsimp only at hSw); go_simp; try (with_reducible rfl))
    try simp only [Act.put, List.getElem_toArray, List.getElem_cons_zero, List.getElem_cons_succ, List.setIfInBounds_toArray, List.set_cons_zero, List.set_cons_succ]
    refine wpAnyH_take (i := 11) (v := ?_) rfl (by kernel_rfl) (by kernel_rfl) (by kernel_rfl) (fun _ _ _ h => h) (Or.inl ⟨by rfl, ?_⟩) (by assumption) ?_
    rotate_left
    · (intro w hSw; (try dsimp only at hSw); go_simp; try (with_reducible rfl))
    try simp only [Act.put, List.getElem_toArray, List.getElem_cons_zero, List.getElem_cons_succ, List.setIfInBounds_toArray, List.set_cons_zero, List.set_cons_succ]
    refine wpAnyH_take (i := 12) (v := ?_) rfl (by kernel_rfl) (by kernel_rfl) (by kernel_rfl) (fun _ _ _ h => h) (Or.inl ⟨by rfl, ?_⟩) (by assumption) ?_
    rotate_left
    · (intro w hSw; (try dsimp only at hSw); go_simp; try (with_reducible rfl))
    try simp only [Act.put, List.getElem_toArray, List.getElem_cons_zero, List.getElem_cons_succ, List.setIfInBounds_toArray, List.set_cons_zero, List.set_cons_succ]
    refine wpAnyH_take (i := 13) (v := ?_) rfl (by kernel_rfl) (by kernel_rfl) (by kernel_rfl) (fun _ _ _ h => h) (Or.inl ⟨by rfl, ?_⟩) (by assumption) ?_
    rotate_left
    · (intro w hSw; (try dsimp only at hSw); go_simp; try (with_reducible rfl))
    try simp only [Act.put, List.getElem_toArray, List.getElem_cons_zero, List.getElem_cons_succ, List.setIfInBounds_toArray, List.set_cons_zero, List.set_cons_succ]
    refine wpAnyH_done (by kernel_rfl) ?_ _
    have hr1b : r1 < W1.heap.size := World.block_lt_of_cell? _ _ g0
    have q0 := hex7.cell (q := r1) (by omega) g0
    have q1 := hex7.cell (q := r1) (by omega) g1
    have q2 := hex7.cell (q := r1) (by omega) g2
    have qf := fun j => (hex7.frozen (q := r1) (j := j) (by omega) hr1b).trans (gf j)
    have HS5 := hide ((HSN.out.drewN1).net (applyP_ok HSN.out.ok) hna7 hex7 hf7)
    have HE5 := hide (HEB.out.trans ((Ex.of_drew hex7).mono (fun k hk => .inr (.inl hk))))
    have m_f : ∀ k, Foot b vr' va' k → ¬ k = r1 := fun k hk z => by
      rcases hf7 k hk with y | y
      · exact n_f k y z
      · have h3 : W1.heap.size ≤ k := y; omega
    have HFT5 : Hid (∀ k, Foot b vr' va' k → Foot b vr va k ∨ w.heap.size ≤ k) := fun k hk => by
      rcases hf7 k hk with y | y
      · exact .inl y
      · right; have h3 : W1.heap.size ≤ k := y; have := HEB.out.size; omega
    clear hex7 hna7 hf7 HCL g0 g1 g2 gf k0 k2 k3 hHeld
    simp only [] at HS5
    obtain ⟨er, her⟩ : ∃ y, (runP x.N x.uid x.us).2.2.1 = y := ⟨_, rfl⟩
    obtain ⟨at_, hat⟩ : ∃ y, (runP x.N x.uid x.us).2.2.2 = y := ⟨_, rfl⟩
    rw [her, hat]
    have HER := hide her
    have HAT := hide hat
    clear her hat
    go_wp2
    refine bodyPost_ret (v := ansV er at_ ⟨#[]⟩) (by simp [results, Try.results10, go_sem, ansV, q0, q1, q2]) rfl ⟨by rw [HER.out, HAT.out], ((HE5.out.setNew (p := r1) hr1w _).setNew (p := r1) hr1w _).setNew (p := r1) hr1w _, vr', va', sv, _, HS5.out.r1 n_s m_f n_t n_u _ _ _, HFT5.out, fun k hk => .inl hk, fun k hk => .inl (by first | exact hk | (rw [← huv]; exact hk))⟩
end Go.Proofs.Qxb6500778a
