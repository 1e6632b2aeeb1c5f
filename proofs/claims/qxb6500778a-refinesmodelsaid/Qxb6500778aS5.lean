import Derived.Test.Qxb6500778aS4
namespace Go.Proofs.Qxb6500778a
open Go.RowKit

theorem SS.put1 {w : World} {s b : Nat} {x : Sn} {vr va : Nat → Value} {sv uv : Value} (h : SS w s b x vr va sv uv) (v : Value) (L : List Chg) (ho : w.ownsRow (s + 1) 45 9 v L.length (flatC L)) (hf : ∀ k, v.ownBlock = some k → ¬ Foot b vr va k) (ht : ∀ k, v.ownBlock = some k → uv.ownBlock ≠ some k) : SS (w.setCell ⟨s, 1, none⟩ v) s b { x with st := L } vr va v uv := by
  have e : Ex (fun k => k = s) w (w.setCell ⟨s, 1, none⟩ v) := (Ex.refl (fun k => k = s) w).set (p := s) rfl _
  have hc := h.c1
  refine ⟨?_, World.cell?_setCell_same _ _ _ hc, ?_, ?_, ?_, fun j => by rw [set_frozen]; exact h.fz j, h.na.keep e (fun k hk (z : k = s) => h.sf (by rw [← z]; exact hk)), h.ok, own_kept ho e (fun k hk (z : k = s) => by have := (ho.lt k hk).1; omega), own_kept h.us e (fun k hk (z : k = s) => by have := (h.us.lt k hk).1; omega), h.bs, h.sf, hf, h.uf, ht, h.ul⟩
  · rw [set_at _ _ _ _ _ _ hc, if_neg (by omega)]; exact h.c0
  · rw [set_at _ _ _ _ _ _ hc, if_neg (by omega)]; exact h.c2
  · rw [set_at _ _ _ _ _ _ hc, if_neg (by omega)]; exact h.c3
  · rw [set_at _ _ _ _ _ _ hc, if_neg (by omega)]; exact h.c4
set_option linter.unusedSimpArgs false in
set_option maxRecDepth 100000 in
set_option maxHeartbeats 16000000 in
theorem step_commit (w : World) (s b : Nat) (x : Sn) (vr va : Nat → Value) (sv uv : Value) (a : Int) (c : Chg) (da : Option Addr) (s_ : List Int) (cp : Nat) (h : SS w s b x vr va sv uv) (hst : x.st.length ≤ 1099511627776) :
    Calls Try.prog 10 #[.pointer (some ⟨s, 0, none⟩), .agg #[.int .i64 3, .int .i64 a, .int .i64 c.kd, .int .i64 c.dv, .int .i64 c.hp, .int .i64 c.pr, .int .i64 c.ln, .int .i64 c.ix, .int .i64 c.cl, .bool c.pm, .bool c.up, .slice da s_.length cp]] w (TPost w s b vr va sv uv (fun _ => False) (applyS { x with st := [] } a x.st) (ansV (runP x.N a x.st).2.2.1 (runP x.N a x.st).2.2.2 ⟨#[]⟩)) := by
  obtain ⟨W, hW⟩ : ∃ W, W = (w.alloc (.cells #[.int .i64 3, .int .i64 a, .int .i64 c.kd, .int .i64 c.dv, .int .i64 c.hp, .int .i64 c.pr, .int .i64 c.ln, .int .i64 c.ix, .int .i64 c.cl, .bool c.pm, .bool c.up, .slice da s_.length cp] 48)).alloc (.cells #[.int .i64 0, .int .i64 0, .string ⟨#[]⟩] 40) := ⟨_, rfl⟩
  have HB : Hid (SB w W s b x vr va sv uv w.heap.size (w.heap.size + 1)) := by rw [hW]; exact sb_new h _
  have HBX : Hid (∀ j u, (#[.int .i64 3, .int .i64 a, .int .i64 c.kd, .int .i64 c.dv, .int .i64 c.hp, .int .i64 c.pr, .int .i64 c.ln, .int .i64 c.ix, .int .i64 c.cl, .bool c.pm, .bool c.up, .slice da s_.length cp].toList)[j]? = some u → W.cell? ⟨w.heap.size, j, none⟩ = some u) := fun j u hj => by
    have h1 := new_cells w [.int .i64 3, .int .i64 a, .int .i64 c.kd, .int .i64 c.dv, .int .i64 c.hp, .int .i64 c.pr, .int .i64 c.ln, .int .i64 c.ix, .int .i64 c.cl, .bool c.pm, .bool c.up, .slice da s_.length cp] 48 j u hj
    rw [Addr.add_mid, Nat.zero_add] at h1
    rw [hW]
    exact ((Ex.refl (fun _ => False) _).alloc _).cell (fun e => e) h1
  go_enter Try.func10, Try.ntmps10
  go_upto_region 1 with fail
  rw [← hW]
  clear hW h
  obtain ⟨r1, hr1⟩ : ∃ r, w.heap.size + 1 = r := ⟨_, rfl⟩
  rw [hr1] at HB ⊢
  obtain ⟨r0, hr0⟩ : ∃ r, w.heap.size = r := ⟨_, rfl⟩
  rw [hr0] at HB HBX ⊢
  clear hr0 hr1
  have k0 := HBX.out 0 _ rfl
  obtain ⟨sa, sc, hsv⟩ := own_len HB.out.ss.st
  subst hsv
  have k1 := HBX.out 1 _ rfl
  have s1 := HB.out.ss.c1
  have hr1w : w.heap.size ≤ r1 := by have := HB.out.h1; omega
  have n_s : ¬ s = r1 := by have := HB.out.sl; omega
  have n_f : ∀ k, Foot b vr va k → ¬ k = r1 := fun k hk z => by have := HB.out.fl k hk; omega
  have n_u : ∀ k, uv.ownBlock = some k → ¬ k = r1 := fun k hk z => by have := HB.out.ul k hk; omega
  have hsl := HB.out.sl
  have hWs : w.heap.size ≤ W.heap.size := HB.out.ex.size
  have hr0l : r0 < W.heap.size := World.block_lt_of_cell? _ _ k1
  have hsW : s < W.heap.size := HB.out.ss.lt
  have HB0 := hide HB.out.h0
  have HB1 := hide HB.out.h1
  go_upto_region 15 with fail
  clear k0
  refine wp_region_held_drew (S := fun w' => w'.cell? ⟨r0, 1, none⟩ = some (.int .i64 a) ∧ w'.cell? ⟨s, 1, none⟩ = some (.slice sa x.st.length sc)) (by kernel_rfl) (And.intro k1 s1) (fun hHeld => ?_)
  refine wpAnyH_take (i := 0) (v := ?_) rfl (by kernel_rfl) (by kernel_rfl) (by kernel_rfl) (fun _ _ _ h => h) (Or.inl ⟨by rfl, ?_⟩) (by assumption) ?_
  rotate_left
  · (intro w hSw; (try dsimp only at hSw); go_simp; try (with_reducible rfl))
  try simp only [Act.put, List.getElem_toArray, List.getElem_cons_zero, List.getElem_cons_succ, List.setIfInBounds_toArray, List.set_cons_zero, List.set_cons_succ]
  refine wpAnyH_take (i := 1) (v := ?_) rfl (by kernel_rfl) (by kernel_rfl) (by kernel_rfl) (fun _ _ _ h => h) (Or.inl ⟨by rfl, ?_⟩) (by assumption) ?_
  rotate_left
  · (intro w hSw; (try dsimp only at hSw); go_simp; try (with_reducible rfl))
  try simp only [Act.put, List.getElem_toArray, List.getElem_cons_zero, List.getElem_cons_succ, List.setIfInBounds_toArray, List.set_cons_zero, List.set_cons_succ]
  refine wpAnyH_take (i := 2) (v := ?_) rfl (by kernel_rfl) (by kernel_rfl) (by kernel_rfl) (fun _ _ _ h => h) (Or.inl ⟨by rfl, ?_⟩) (by assumption) ?_
  rotate_left
  · (intro w hSw; (try dsimp only at hSw); go_simp; try (with_reducible rfl))
  try simp only [Act.put, List.getElem_toArray, List.getElem_cons_zero, List.getElem_cons_succ, List.setIfInBounds_toArray, List.set_cons_zero, List.set_cons_succ]
  refine wpAnyH_take (i := 3) (v := ?_) rfl (by kernel_rfl) (by kernel_rfl) (by kernel_rfl) (fun _ _ _ h => h) (Or.inl ⟨by rfl, ?_⟩) (by assumption) ?_
  rotate_left
  · (intro w hSw; (try dsimp only at hSw); go_simp; try (with_reducible rfl))
  try simp only [Act.put, List.getElem_toArray, List.getElem_cons_zero, List.getElem_cons_succ, List.setIfInBounds_toArray, List.set_cons_zero, List.set_cons_succ]
  refine wpAnyH_take (i := 4) (v := ?_) rfl (by kernel_rfl) (by kernel_rfl) (by kernel_rfl) (fun _ _ _ h => h) (Or.inl ⟨by rfl, ?_⟩) (by assumption) ?_
  rotate_left
  · (intro w hSw; (try dsimp only at hSw); go_simp; try (with_reducible rfl))
  try simp only [Act.put, List.getElem_toArray, List.getElem_cons_zero, List.getElem_cons_succ, List.setIfInBounds_toArray, List.set_cons_zero, List.set_cons_succ]
  refine wpAnyH_take (i := 5) (v := ?_) rfl (by kernel_rfl) (by kernel_rfl) (by kernel_rfl) (fun _ _ _ h => h) (Or.inl ⟨by rfl, ?_⟩) (by assumption) ?_
  rotate_left
  · (intro w hSw; (try dsimp only at hSw); go_simp; try (with_reducible rfl))
  try simp only [Act.put, List.getElem_toArray, List.getElem_cons_zero, List.getElem_cons_succ, List.setIfInBounds_toArray, List.set_cons_zero, List.set_cons_succ]
  refine wpAnyH_take (i := 6) (v := ?_) rfl (by kernel_rfl) (by kernel_rfl) (by kernel_rfl) (fun _ _ _ h => h) (Or.inl ⟨by rfl, ?_⟩) (by assumption) ?_
  rotate_left
  · (intro w hSw; (try dsimp only at hSw); go_simp; try (with_reducible rfl))
  try simp only [Act.put, List.getElem_toArray, List.getElem_cons_zero, List.getElem_cons_succ, List.setIfInBounds_toArray, List.set_cons_zero, List.set_cons_succ]
  refine wpAnyH_ready (rs := [7]) (by kernel_rfl) (by simp) ?_
  refine (AllReadyH.cons rfl (fun K hK => ?_) AllReadyH.nil)
  · go_simp
    refine hK.out _ _ ?_ (fun hHeld => ?_)
    · first | exact hHeld | (simp [go_sem, k1, s1, hr0l, hsW, Nat.ne_of_lt]; done)
    clear hK K
    try simp only [Act.put, List.getElem_toArray, List.getElem_cons_zero, List.getElem_cons_succ, List.setIfInBounds_toArray, List.set_cons_zero, List.set_cons_succ]
    refine wpAnyH_ready (rs := [8]) (by kernel_rfl) (by simp) ?_
    refine (AllReadyH.cons rfl (fun K hK => ?_) AllReadyH.nil)
    · go_simp
      refine hK.out _ _ ?_ (fun hHeld => ?_)
      · first | exact hHeld | (simp [go_sem, k1, s1, hr0l, hsW, Nat.ne_of_lt]; done)
      clear hK K
      try simp only [Act.put, List.getElem_toArray, List.getElem_cons_zero, List.getElem_cons_succ, List.setIfInBounds_toArray, List.set_cons_zero, List.set_cons_succ]
      refine wpAnyH_done (by kernel_rfl) ?_ _
      have HOW := hide (own_kept HB.out.ss.st (((Ex.refl (fun _ => False) W).alloc (.cells #[.int .i64 a, .slice sa x.st.length sc] 52)).drew) (fun _ _ e => e))
      have EXA := hide (((Ex.refl (fun _ => False) W).alloc (.cells #[.int .i64 a, .slice sa x.st.length sc] 52)).drew)
      have hn0 := new_cells W [.int .i64 a, .slice sa x.st.length sc] 52 0 _ rfl
      have hn1 := new_cells W [.int .i64 a, .slice sa x.st.length sc] 52 1 _ rfl
      have hn0 : (W.alloc (.cells #[.int .i64 a, .slice sa x.st.length sc] 52)).drew.cell? ⟨W.heap.size, 0, none⟩ = some (.int .i64 a) := hn0
      have hn1 : (W.alloc (.cells #[.int .i64 a, .slice sa x.st.length sc] 52)).drew.cell? ⟨W.heap.size, 1, none⟩ = some (.slice sa x.st.length sc) := hn1
      clear hHeld k1 s1
      generalize (W.alloc (.cells #[.int .i64 a, .slice sa x.st.length sc] 52)).drew = W1 at *
      obtain ⟨rb, hrb⟩ : ∃ r, W.heap.size = r := ⟨_, rfl⟩
      rw [hrb] at hn0 hn1 ⊢
      have HSA := hide (HB.out.ss.new EXA.out)
      have HSN := hide (HSA.out.put1 (.slice none 0 0) [] (World.ownsRow_nil _ _ _ _) (fun k hk => by cases hk) (fun k hk => by cases hk))
      have s1 := HSA.out.c1
      have sf := HSA.out.fz
      go_upto_region 17 with fail
      have EXS := hide ((Ex.refl (fun k => k = s) W1).set (p := s) (j := 1) rfl (.slice none 0 0))
      have hn0 := EXS.out.cell (q := rb) (by omega) hn0
      have hn1 := EXS.out.cell (q := rb) (by omega) hn1
      have g0 := EXS.out.cell (q := r1) (fun z => n_s z.symm) (EXA.out.cell (fun e => e) HB.out.d0)
      have g1 := EXS.out.cell (q := r1) (fun z => n_s z.symm) (EXA.out.cell (fun e => e) HB.out.d1)
      have g2 := EXS.out.cell (q := r1) (fun z => n_s z.symm) (EXA.out.cell (fun e => e) HB.out.d2)
      have hr1W : r1 < W.heap.size := World.block_lt_of_cell? _ _ HB.out.d0
      have gf := fun j => (EXS.out.frozen (q := r1) (j := j) (fun z => n_s z.symm) (Nat.lt_of_lt_of_le hr1W EXA.out.size)).trans ((EXA.out.frozen (fun e => e) hr1W).trans (HB.out.df j))
      have HOW2 := hide (own_kept HOW.out EXS.out (fun k hk (z : k = s) => by have := (HB.out.ss.st.lt k hk).1; omega))
      have HEB : Hid (Ex (fun k => k = s ∨ k = b ∨ False) w (W1.setCell ⟨s, 1, none⟩ (.slice none 0 0))) := ((HB.out.ex.trans EXA.out).mono (fun _ z => z.elim)).trans (EXS.out.mono (fun k hk => .inl hk))
      have m_t : ∀ k, (Value.slice none 0 0).ownBlock = some k → ¬ k = r1 := fun k hk => by cases hk
      have HTB : Hid (∀ k, (Value.slice sa x.st.length sc).ownBlock = some k → k ≠ b) := fun k hk z => HB.out.ss.tf k hk (.inl z)
      clear s1 sf HOW HSA
      generalize W1.setCell ⟨s, 1, none⟩ (.slice none 0 0) = W2 at *
      have HCL := hide (applyS_any W2 s b _ _ vr va (.slice none 0 0) uv a _ x.st HSN.out HOW2.out HTB.out hst)
      go_wp2_with fail
      refine HCL.out.mono ?_
      rintro e w5 ⟨rfl, hex5, vr', va', uv', hss5, hf5, hu5⟩
      have hbs := HSN.out.bs
      have hr1b : r1 < W2.heap.size := World.block_lt_of_cell? _ _ g0
      have q0 := hex5.cell (q := r1) (j := 0) (fun z => by have := HB.out.sl; have := HB.out.h1; rcases z with z | z <;> omega) g0
      have q1 := hex5.cell (q := r1) (j := 1) (fun z => by have := HB.out.sl; have := HB.out.h1; rcases z with z | z <;> omega) g1
      have q2 := hex5.cell (q := r1) (j := 2) (fun z => by have := HB.out.sl; have := HB.out.h1; rcases z with z | z <;> omega) g2
      have qf := fun j => (hex5.frozen (q := r1) (j := j) (fun z => by have := HB.out.sl; have := HB.out.h1; rcases z with z | z <;> omega) hr1b).trans (gf j)
      have HS5 := hide hss5
      have HE5 := hide (HEB.out.trans (hex5.mono (fun k hk => by rcases hk with hk | hk; exact .inl hk; exact .inr (.inl hk))))
      have m_f : ∀ k, Foot b vr' va' k → ¬ k = r1 := fun k hk z => by
        rcases hf5 k hk with y | y
        · exact n_f k y z
        · omega
      have m_u : ∀ k, uv'.ownBlock = some k → ¬ k = r1 := fun k hk z => by
        rcases hu5 k hk with y | y
        · exact n_u k y z
        · omega
      have HFT5 : Hid (∀ k, Foot b vr' va' k → Foot b vr va k ∨ w.heap.size ≤ k) := fun k hk => by
        rcases hf5 k hk with y | y
        · exact .inl y
        · right; have := HEB.out.size; omega
      have HUT5 : Hid (∀ k, uv'.ownBlock = some k → uv.ownBlock = some k ∨ w.heap.size ≤ k) := fun k hk => by
        rcases hu5 k hk with y | y
        · exact .inl y
        · right; have := HEB.out.size; omega
      clear hex5 hss5 hf5 hu5 HCL g0 g1 g2 gf hn0 hn1
      obtain ⟨er, her⟩ : ∃ y, (runP ({ x with st := [] }).N a x.st).2.2.1 = y := ⟨_, rfl⟩
      obtain ⟨at_, hat⟩ : ∃ y, (runP ({ x with st := [] }).N a x.st).2.2.2 = y := ⟨_, rfl⟩
      rw [her, hat]
      have HER : Hid ((runP x.N a x.st).2.2.1 = er) := her
      have HAT : Hid ((runP x.N a x.st).2.2.2 = at_) := hat
      clear her hat
      simp only [ansV]
      go_wp2
      refine bodyPost_ret (v := ansV er at_ ⟨#[]⟩) (by simp [results, Try.results10, go_sem, ansV, q0, q1, q2]) rfl ⟨by rw [HER.out, HAT.out], ((HE5.out.setNew (p := r1) hr1w _).setNew (p := r1) hr1w _).setNew (p := r1) hr1w _, vr', va', (.slice none 0 0), uv', HS5.out.r1 n_s m_f m_t m_u _ _ _, HFT5.out, fun k hk => (by cases hk), HUT5.out⟩
end Go.Proofs.Qxb6500778a
