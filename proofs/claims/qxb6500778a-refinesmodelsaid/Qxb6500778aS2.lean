import Derived.Test.Qxb6500778aS1
namespace Go.Proofs.Qxb6500778a
open Go.RowKit

theorem runL_ok : ∀ (C : List Chg) (N : Nat → Dv) (i : Nat) (U : List Chg), NetOk N → (∀ c ∈ C, GoodC c) → NetOk (runL N C i U).1
  | [], N, i, U, h, _ => h
  | c :: C, N, i, U, h, hg => by
    rw [runL]
    split
    · exact runL_ok C _ _ _ (step_ok N c h (hg c (List.mem_cons_self ..))) (fun x hx => hg x (List.mem_cons_of_mem _ hx))
    · exact h
theorem runL_len : ∀ (C : List Chg) (N : Nat → Dv) (i : Nat) (U : List Chg), (runL N C i U).2.2.1 = 0 → (runL N C i U).2.1.length = C.length + U.length ∧ (runL N C i U).2.2.2 = 0
  | [], N, i, U, _ => ⟨by simp [runL], rfl⟩
  | c :: C, N, i, U, h => by
    rw [runL] at h ⊢
    split
    · rename_i h0
      rw [if_pos h0] at h
      have := runL_len C _ _ _ h
      rw [this.1, List.length_cons, List.length_cons]
      exact ⟨by omega, this.2⟩
    · rename_i h0
      rw [if_neg h0] at h
      exact absurd h h0
theorem runP_ok {N : Nat → Dv} {id : Int} {C : List Chg} (h : NetOk N) : NetOk (runP N id C).1 := by
  unfold runP
  split
  · rename_i h0
    exact runL_ok C N 0 [] h (check_ok h0).2.2
  · exact h
theorem runP_len {N : Nat → Dv} {id : Int} {C : List Chg} (h : (runP N id C).2.2.1 = 0) : (runP N id C).2.1.length ≤ 128 ∧ (runP N id C).2.2.2 = 0 := by
  unfold runP at h ⊢
  split
  · rename_i h0
    rw [if_pos h0] at h
    have := runL_len C N 0 [] h
    rw [this.1, List.length_nil, Nat.add_zero]
    exact ⟨(check_ok h0).2.1, this.2⟩
  · rename_i h0
    rw [if_neg h0] at h
    exact absurd h h0
def applyS (x : Sn) (id : Int) (C : List Chg) : Sn := if (runP x.N id C).2.2.1 = 0 then ⟨(runP x.N id C).1, x.st, id, (runP x.N id C).2.1, true⟩ else x
def ansV (e a : Int) (t : ByteArray) : Value := .agg #[.int .i64 e, .int .i64 a, .string t]
def SPost (w : World) (s b : Nat) (vr va : Nat → Value) (uv : Value) (x' : Sn) (sv : Value) (v : Value) (e : Ending) (w' : World) : Prop :=
  e = .returned v ∧ Ex (fun k => k = s ∨ k = b) w w' ∧ ∃ vr' va' uv', SS w' s b x' vr' va' sv uv' ∧ (∀ k, Foot b vr' va' k → Foot b vr va k ∨ w.heap.size ≤ k) ∧ (∀ k, uv'.ownBlock = some k → uv.ownBlock = some k ∨ w.heap.size ≤ k)
set_option linter.unusedSimpArgs false in
set_option maxRecDepth 100000 in
set_option maxHeartbeats 16000000 in
/-- session.apply -/
theorem applyS_any (w : World) (s b B0 : Nat) (x : Sn) (vr va : Nat → Value) (sv uv : Value) (id : Int) (v : Value) (C : List Chg) (h : SS w s b x vr va sv uv) (ho : w.ownsRow B0 45 9 v C.length (flatC C)) (hob : ∀ k, v.ownBlock = some k → k ≠ b) (hlen : C.length ≤ 1099511627776) :
    Calls Try.prog 23 #[.pointer (some ⟨s, 0, none⟩), .agg #[.int .i64 id, v]] w (SPost w s b vr va uv (applyS x id C) sv (ansV (runP x.N id C).2.2.1 (runP x.N id C).2.2.2 ⟨#[]⟩)) := by
  obtain ⟨sa, sc, rfl⟩ := own_len ho
  obtain ⟨W, hW⟩ : ∃ W, W = (w.alloc (.cells #[.int .i64 id, .slice sa C.length sc] 52)).alloc (.cells #[.int .i64 0, .int .i64 0, .string ⟨#[]⟩] 40) := ⟨_, rfl⟩
  have HE : Hid (Ex (fun _ => False) w W) := by rw [hW]; exact ((Ex.refl _ w).alloc _).alloc _
  have HO : Hid (W.ownsRow B0 45 9 (.slice sa C.length sc) C.length (flatC C)) := by rw [hW]; exact (ho.alloc _).alloc _
  have nc := fun j u h => new_cells w [.int .i64 id, .slice sa C.length sc] 52 j u h
  have nd := fun j u h => new_cells (w.alloc (.cells #[.int .i64 id, .slice sa C.length sc] 52)) [.int .i64 0, .int .i64 0, .string ⟨#[]⟩] 40 j u h
  have c0 := nc 0 _ rfl
  have c1 := nc 1 _ rfl
  have d0 := nd 0 _ rfl
  have d1 := nd 1 _ rfl
  have d2 := nd 2 _ rfl
  rw [show (w.alloc (.cells #[.int .i64 id, .slice sa C.length sc] 52)).heap.size = w.heap.size + 1 by simp] at d0 d1 d2
  simp only [Addr.add_mid, Nat.zero_add] at c0 c1 d0 d1 d2
  have HC0 : Hid (W.cell? ⟨w.heap.size, 0, none⟩ = some (.int .i64 id)) := by rw [hW]; exact ((Ex.refl (fun _ => False) _).alloc _).cell (fun e => e) c0
  have HC1 : Hid (W.cell? ⟨w.heap.size, 1, none⟩ = some (.slice sa C.length sc)) := by rw [hW]; exact ((Ex.refl (fun _ => False) _).alloc _).cell (fun e => e) c1
  have HD0 : Hid (W.cell? ⟨w.heap.size + 1, 0, none⟩ = some (.int .i64 0)) := by rw [hW]; exact d0
  have HD1 : Hid (W.cell? ⟨w.heap.size + 1, 1, none⟩ = some (.int .i64 0)) := by rw [hW]; exact d1
  have HD2 : Hid (W.cell? ⟨w.heap.size + 1, 2, none⟩ = some (.string ⟨#[]⟩)) := by rw [hW]; exact d2
  have HDF : Hid (∀ j, W.frozen? ⟨w.heap.size + 1, j, none⟩ = false) := fun j => by rw [hW]; simp [go_sem]
  have HS := hide (h.new HE.out)
  have hsl := h.lt
  have HFL : Hid (∀ k, Foot b vr va k → k < w.heap.size) := fun k hk => h.na.foot_lt hk
  have HTL : Hid (∀ k, sv.ownBlock = some k → k < w.heap.size) := fun k hk => (h.st.lt k hk).2
  have HUL : Hid (∀ k, uv.ownBlock = some k → k < w.heap.size) := fun k hk => (h.us.lt k hk).2
  clear nc nd c0 c1 d0 d1 d2 h ho
  have HINV : Hid (∀ X, Ex (fun _ => False) W X → Calls Try.prog 18 #[.pointer (some ⟨b, 0, none⟩), .agg #[.int .i64 id, .slice sa C.length sc]] X (InvPost X (if (runP x.N id C).2.2.1 = 0 then id else 0) (runP x.N id C).2.2.1 (runP x.N id C).2.2.2 (runP x.N id C).2.1)) := fun X e => inverse_any X b B0 x.N vr va id _ C (HS.out.na.new e) HS.out.ok (own_kept HO.out e (fun _ _ e => e)) hlen
  have HAPP : Hid (∀ X, Ex (fun _ => False) W X → Calls Try.prog 20 #[.pointer (some ⟨b, 0, none⟩), .agg #[.int .i64 id, .slice sa C.length sc]] X (ApplyPost X b vr va (runP x.N id C).2.2.1 (runP x.N id C).2.2.2 (applyP x.N id C))) := fun X e => apply_any X b B0 x.N vr va id _ C (HS.out.na.new e) HS.out.ok (own_kept HO.out e (fun _ _ e => e)) hlen
  have HRO : Hid (NetOk (runP x.N id C).1) := runP_ok HS.out.ok
  have HRL : Hid ((runP x.N id C).2.2.1 = 0 → (runP x.N id C).2.1.length ≤ 128 ∧ (runP x.N id C).2.2.2 = 0) := runP_len
  have HAS : Hid (applyS x id C = if (runP x.N id C).2.2.1 = 0 then ⟨(runP x.N id C).1, x.st, id, (runP x.N id C).2.1, true⟩ else x) := rfl
  have HAP : Hid (applyP x.N id C = if (runP x.N id C).2.2.1 = 0 then (runP x.N id C).1 else x.N) := rfl
  obtain ⟨N2, U, er, at_, hR⟩ : ∃ a b c d, runP x.N id C = (a, b, c, d) := ⟨_, _, _, _, rfl⟩
  rw [hR] at HINV HAPP HRO HRL HAS HAP ⊢
  simp only [] at HINV HAPP HRO HRL HAS HAP ⊢
  clear hR hlen
  generalize C.length = n at *
  obtain ⟨id', hid'⟩ : ∃ y, (if er = 0 then id else 0) = y := ⟨_, rfl⟩
  rw [hid'] at HINV
  have HID := hide hid'
  clear hid'
  go_enter Try.func23, Try.ntmps23
  go_upto_region 1 with fail
  rw [← hW]
  clear hW
  obtain ⟨r1, hr1⟩ : ∃ r, w.heap.size + 1 = r := ⟨_, rfl⟩
  rw [hr1] at HD0 HD1 HD2 HDF ⊢
  obtain ⟨rb, hrb⟩ : ∃ r, w.heap.size = r := ⟨_, rfl⟩
  rw [hrb] at HC0 HC1 ⊢
  have HRB := hide hrb
  have HR1 := hide hr1
  have hrs : ¬ r1 = s := by omega
  have hr1b : r1 < W.heap.size := World.block_lt_of_cell? _ _ HD0.out
  clear hrb hr1
  have k0 := HS.out.c0
  have c0 := HC0.out
  have c1 := HC1.out
  go_cut [5, 6, 7] (fun s5 s6 s7 wx => ∃ (r5 : Nat) (iv : Value), s5 = .pointer (some ⟨r5, 0, none⟩) ∧ s6 = .int .i64 er ∧ s7 = .int .i64 at_ ∧ Hid (Ex (fun _ => False) W wx) ∧ Hid (wx.cell? ⟨r5, 0, none⟩ = some (.int .i64 id')) ∧ Hid (wx.cell? ⟨r5, 1, none⟩ = some iv) ∧ Hid (wx.ownsRow W.heap.size 45 9 iv U.length (flatC U)) ∧ Hid (W.heap.size ≤ r5))
  case first =>
    have hWl : s < W.heap.size := HS.out.lt
    have hbl2 : rb < W.heap.size := World.block_lt_of_cell? _ _ c0
    have HA0 : Hid ((W.alloc (.cells #[.int .i64 0, .slice none 0 0] 52)).drew.cell? ⟨W.heap.size, 0, none⟩ = some (.int .i64 0)) := new_cells W [.int .i64 0, .slice none 0 0] 52 0 _ rfl
    have HA1 : Hid ((W.alloc (.cells #[.int .i64 0, .slice none 0 0] 52)).drew.cell? ⟨W.heap.size, 1, none⟩ = some (.slice none 0 0)) := new_cells W [.int .i64 0, .slice none 0 0] 52 1 _ rfl
    have HAF : Hid (∀ j, (W.alloc (.cells #[.int .i64 0, .slice none 0 0] 52)).drew.frozen? ⟨W.heap.size, j, none⟩ = false) := fun j => by simp [go_sem]
    have HAL : Hid (W.heap.size < (W.alloc (.cells #[.int .i64 0, .slice none 0 0] 52)).drew.heap.size) := by show _ < _; simp [go_sem]
    go_region_law (first
      | (refine step_call rfl 18 #[.pointer (some ⟨b, 0, none⟩), .agg #[.int .i64 id, .slice sa n sc]] (by simp [go_sem]) (HINV.out _ (by first | exact (Ex.refl _ W).drew | exact ((Ex.refl _ W).alloc _).drew | exact ((Ex.refl _ W).drew).alloc _)) ?_; rintro e w6 ⟨iv, rfl, hex6, hown6⟩; obtain ⟨ia, ic, rfl⟩ := own_len hown6; refine ⟨_, rfl, ?_⟩; try (have y0 := hex6.cell (fun e => e) HA0.out; have y1 := hex6.cell (fun e => e) HA1.out; have yf := fun j => (hex6.frozen (q := W.heap.size) (j := j) (fun e => e) HAL.out).trans (HAF.out j))))
    all_goals first
      | (have HEW := hide ((Ex.of_drew hex6).alloc (.cells #[.int .i64 id', .slice ia U.length ic] 52))
         have hn0 := new_cells w6 [.int .i64 id', .slice ia U.length ic] 52 0 _ rfl
         have hn1 := new_cells w6 [.int .i64 id', .slice ia U.length ic] 52 1 _ rfl
         have HON := hide (own_low (hown6.alloc (.cells #[.int .i64 id', .slice ia U.length ic] 52)) (B' := W.heap.size) (Nat.le_refl _))
         have HSZ : Hid (W.heap.size ≤ w6.heap.size) := hex6.size
         clear hex6 hown6
         go_wp2
         go_meet
         case rel => exact ⟨w6.heap.size, .slice ia U.length ic, rfl, rfl, rfl, HEW, hn0, hn1, HON, HSZ⟩)
      | (have HEW := hide (((((Ex.refl (fun _ => False) W).alloc (.cells #[.int .i64 0, .slice none 0 0] 52)).drew.trans hex6).setNew (p := W.heap.size) (j := 0) (Nat.le_refl _) (.int .i64 id')).setNew (p := W.heap.size) (j := 1) (Nat.le_refl _) (.slice ia U.length ic))
         have hn1' : (w6.setCell ⟨W.heap.size, 0, none⟩ (.int .i64 id')).cell? ⟨W.heap.size, 1, none⟩ = some (.slice none 0 0) := by rw [set_at _ _ _ _ _ _ y0, if_neg (by omega)]; exact y1
         have hn1 : ((w6.setCell ⟨W.heap.size, 0, none⟩ (.int .i64 id')).setCell ⟨W.heap.size, 1, none⟩ (.slice ia U.length ic)).cell? ⟨W.heap.size, 1, none⟩ = some (.slice ia U.length ic) := World.cell?_setCell_same _ _ _ hn1'
         have hn0 : ((w6.setCell ⟨W.heap.size, 0, none⟩ (.int .i64 id')).setCell ⟨W.heap.size, 1, none⟩ (.slice ia U.length ic)).cell? ⟨W.heap.size, 0, none⟩ = some (.int .i64 id') := by rw [set_at _ _ _ _ _ _ hn1', if_neg (by omega)]; exact World.cell?_setCell_same _ _ _ y0
         have HON := hide (own_low (own_kept hown6 (((Ex.refl (fun k => k = W.heap.size) w6).set (p := W.heap.size) (j := 0) rfl (.int .i64 id')).set (p := W.heap.size) (j := 1) rfl (.slice ia U.length ic)) (fun k hk (z : k = W.heap.size) => by have := (hown6.lt k hk).1; have := HAL.out; omega)) (B' := W.heap.size) (Nat.le_of_lt HAL.out))
         clear hex6 hown6 y0 y1 yf
         go_wp2
         go_meet
         case rel => exact ⟨W.heap.size, .slice ia U.length ic, rfl, rfl, rfl, HEW, hn0, hn1, HON, Nat.le_refl _⟩)
  obtain ⟨r5, iv, rfl, rfl, rfl, HEX, HI0, HI1, HIO, HR5⟩ := hcut
  obtain ⟨ia, ic, rfl⟩ := own_len HIO.out
  clear k0 c0 c1 HINV
  generalize wc = W1 at *
  have hEX := HEX.out
  have g0 := hEX.cell (fun e => e) HD0.out
  have g1 := hEX.cell (fun e => e) HD1.out
  have g2 := hEX.cell (fun e => e) HD2.out
  have gf := fun j => (hEX.frozen (q := r1) (j := j) (fun e => e) hr1b).trans (HDF.out j)
  have hW1 : W.heap.size ≤ W1.heap.size := hEX.size
  have hWw : w.heap.size ≤ W.heap.size := HE.out.size
  have hr1w : w.heap.size < r1 := by have := HR1.out; omega
  by_cases hz : er = 0
  · subst hz
    rw [if_pos rfl] at HAS HAP HID
    have hid := HID.out
    subst hid
    have HS1 := hide (HS.out.new (hEX.drew))
    have k0 := (HS.out.new hEX).c0
    have c0 := hEX.cell (fun e => e) HC0.out
    have c1 := hEX.cell (fun e => e) HC1.out
    have HCL := hide (HAPP.out W1.drew hEX.drew)
    rw [HAP.out] at HCL
    clear hEX HAPP
    go_upto_region 4 with fail
    have hsb : ¬ s = b := by have := HS1.out.bs; omega
    have hrbb : ¬ rb = b := by have := HS1.out.bs; have := HRB.out; omega
    refine wp_region_held_drew (S := fun w' => w'.cell? ⟨s, 0, none⟩ = some (.pointer (some ⟨b, 0, none⟩)) ∧ w'.cell? ⟨rb, 0, none⟩ = some (.int .i64 id) ∧ w'.cell? ⟨rb, 1, none⟩ = some (.slice sa n sc)) (by kernel_rfl) (And.intro k0 (And.intro c0 c1)) (fun hHeld => ?_)
    refine wpAnyH_take (i := 0) (v := ?_) rfl (by kernel_rfl) (by kernel_rfl) (by kernel_rfl) (fun _ _ _ h => h) (Or.inl ⟨by rfl, ?_⟩) (by assumption) ?_
    rotate_left
    · (intro w hSw; (try dsimp only at hSw); go_simp; try (with_reducible rfl))
    try simp only [Act.put, List.getElem_toArray, List.getElem_cons_zero, List.getElem_cons_succ, List.setIfInBounds_toArray, List.set_cons_zero, List.set_cons_succ]
    refine wpAnyH_take (i := 1) (v := ?_) rfl (by kernel_rfl) (by kernel_rfl) (by kernel_rfl) (fun _ _ _ h => h) (Or.inl ⟨by rfl, ?_⟩) (by assumption) ?_
    rotate_left
    · (intro w hSw; (try dsimp only at hSw); go_simp; try (with_reducible rfl))
    try simp only [Act.put, List.getElem_toArray, List.getElem_cons_zero, List.getElem_cons_succ, List.setIfInBounds_toArray, List.set_cons_zero, List.set_cons_succ]
    refine wpAnyH_take (i := 2) (v := ?_) rfl (by kernel_rfl) (by kernel_rfl) (by kernel_rfl) (fun _ _ _ h => h) (Or.inl ⟨by rfl, ?_⟩) (by assumption) ?_
    rotate_left
    · (intro w hSw; (try dsimp only at hSw); go_simp; try (with_reducible rfl))
    try simp only [Act.put, List.getElem_toArray, List.getElem_cons_zero, List.getElem_cons_succ, List.setIfInBounds_toArray, List.set_cons_zero, List.set_cons_succ]
    refine wpAnyH_take (i := 3) (v := ?_) rfl (by kernel_rfl) (by kernel_rfl) (by kernel_rfl) (fun _ _ _ h => h) (Or.inl ⟨by rfl, ?_⟩) (by assumption) ?_
    rotate_left
    · (intro w hSw; (try dsimp only at hSw); go_simp; try (with_reducible rfl))
    try simp only [Act.put, List.getElem_toArray, List.getElem_cons_zero, List.getElem_cons_succ, List.setIfInBounds_toArray, List.set_cons_zero, List.set_cons_succ]
    refine wpAnyH_take (i := 4) (v := ?_) rfl (by kernel_rfl) (by kernel_rfl) (by kernel_rfl) (fun _ _ _ h => h) (Or.inl ⟨by rfl, ?_⟩) (by assumption) ?_
    rotate_left
    · (intro w hSw; (try dsimp only at hSw); go_simp; try (with_reducible rfl))
    try simp only [Act.put, List.getElem_toArray, List.getElem_cons_zero, List.getElem_cons_succ, List.setIfInBounds_toArray, List.set_cons_zero, List.set_cons_succ]
    refine wpAnyH_ready (rs := [5]) (by kernel_rfl) (by simp) ?_
    refine (AllReadyH.cons rfl (fun K hK => ?_) AllReadyH.nil)
    · refine step_call rfl 20 #[.pointer (some ⟨b, 0, none⟩), .agg #[.int .i64 id, .slice sa n sc]] (by simp [go_sem]) HCL.out ?_
      rintro e w7 ⟨rfl, hex7, vr', va', hna7, hf7⟩
      refine ⟨_, rfl, ?_⟩
      refine hK.out _ _ ?_ (fun hHeld => ?_)
      · first | exact hHeld | exact ⟨hex7.cell hsb hHeld.1, hex7.cell hrbb hHeld.2.1, hex7.cell hrbb hHeld.2.2⟩
      clear hK K
      try simp only [Act.put, List.getElem_toArray, List.getElem_cons_zero, List.getElem_cons_succ, List.setIfInBounds_toArray, List.set_cons_zero, List.set_cons_succ]
      refine wpAnyH_take (i := 6) (v := ?_) rfl (by kernel_rfl) (by kernel_rfl) (by kernel_rfl) (fun _ _ _ h => h) (Or.inl ⟨by rfl, ?_⟩) (by assumption) ?_
      rotate_left
      · (intro w hSw; (try dsimp only at hSw); go_simp; try (with_reducible rfl))
      try simp only [Act.put, List.getElem_toArray, List.getElem_cons_zero, List.getElem_cons_succ, List.setIfInBounds_toArray, List.set_cons_zero, List.set_cons_succ]
      refine wpAnyH_take (i := 7) (v := ?_) rfl (by kernel_rfl) (by kernel_rfl) (by kernel_rfl) (fun _ _ _ h => h) (Or.inl ⟨by rfl, ?_⟩) (by assumption) ?_
      rotate_left
      · (intro w hSw; (try dsimp only at hSw); go_simp; try (with_reducible rfl))
      try simp only [Act.put, List.getElem_toArray, List.getElem_cons_zero, List.getElem_cons_succ, List.setIfInBounds_toArray, List.set_cons_zero, List.set_cons_succ]
      refine wpAnyH_take (i := 8) (v := ?_) rfl (by kernel_rfl) (by kernel_rfl) (by kernel_rfl) (fun _ _ _ h => h) (Or.inl ⟨by rfl, ?_⟩) (by assumption) ?_
      rotate_left
      · (intro w hSw; (try dsimp only at hSw); go_simp; try (with_reducible rfl))
      try simp only [Act.put, List.getElem_toArray, List.getElem_cons_zero, List.getElem_cons_succ, List.setIfInBounds_toArray, List.set_cons_zero, List.set_cons_succ]
      refine wpAnyH_take (i := 9) (v := ?_) rfl (by kernel_rfl) (by kernel_rfl) (by kernel_rfl) (fun _ _ _ h => h) (Or.inl ⟨by rfl, ?_⟩) (by assumption) ?_
      rotate_left
      · (intro w hSw; (try dsimp only at hSw); go_simp; try (with_reducible rfl))
      try simp only [Act.put, List.getElem_toArray, List.getElem_cons_zero, List.getElem_cons_succ, List.setIfInBounds_toArray, List.set_cons_zero, List.set_cons_succ]
      refine wpAnyH_take (i := 10) (v := ?_) rfl (by kernel_rfl) (by kernel_rfl) (by kernel_rfl) (fun _ _ _ h => h) (Or.inl ⟨by rfl, ?_⟩) (by assumption) ?_
      rotate_left
      · (intro w hSw; (try dsimp only at hSw); go_simp; try (with_reducible rfl))
      try simp only [Act.put, List.getElem_toArray, List.getElem_cons_zero, List.getElem_cons_succ, List.setIfInBounds_toArray, List.set_cons_zero, List.set_cons_succ]
      refine wpAnyH_done (by kernel_rfl) ?_ _
      clear hHeld
      have hbs := HS1.out.bs
      have hsW : s < W.heap.size := HS.out.lt
      have HS2 := hide (HS1.out.net HRO.out hna7 hex7 hf7)
      have l0 := hex7.cell (q := r5) (j := 0) (by have := HR5.out; omega) HI0.out
      have l1 := hex7.cell (q := r5) (j := 1) (by have := HR5.out; omega) HI1.out
      have m0 := hex7.cell (q := r1) (j := 0) (by omega) g0
      have m1 := hex7.cell (q := r1) (j := 1) (by omega) g1
      have m2 := hex7.cell (q := r1) (j := 2) (by omega) g2
      have mf := fun j => (hex7.frozen (q := r1) (j := j) (by omega) (by show r1 < W1.heap.size; omega)).trans (gf j)
      have HIO2 := hide (own_low (own_kept HIO.out (Ex.of_drew hex7) (fun k hk (z : k = b) => by have := (HIO.out.lt k hk).1; omega)) (B' := s + 1) (by omega))
      have HIF : Hid (∀ k, (Value.slice ia U.length ic).ownBlock = some k → ¬ Foot b vr' va' k) := fun k hk hk2 => by
        have h1 := HIO.out.lt k hk
        rcases hf7 k hk2 with z | z
        · have := HFL.out k z; omega
        · have h3 : W1.heap.size ≤ k := z; omega
      have HIT : Hid (∀ k, sv.ownBlock = some k → (Value.slice ia U.length ic).ownBlock ≠ some k) := fun k hk hk2 => by
        have h1 := (HIO.out.lt k hk2).1
        have := HTL.out k hk
        omega
      have HS3 := hide ((HS2.out.put23 id (.slice ia U.length ic) U HIO2.out HIF.out HIT.out (HRL.out rfl).1).put4 true)
      have HF1 : Hid (∀ k, Foot b vr' va' k → ¬ k = r1) := fun k hk (z : k = r1) => by
        rcases hf7 k hk with y | y
        · have := HFL.out k y; omega
        · have h3 : W1.heap.size ≤ k := y; omega
      have HFT : Hid (∀ k, Foot b vr' va' k → Foot b vr va k ∨ w.heap.size ≤ k) := fun k hk => by
        rcases hf7 k hk with y | y
        · exact .inl y
        · have h3 : W1.heap.size ≤ k := y; right; omega
      have HE7 : Hid (Ex (fun k => k = s ∨ k = b) w w7) := ((HE.out.trans HEX.out).drew.mono (fun _ z => z.elim)).trans (hex7.mono (fun k hk => .inr hk))
      have s2 := HS2.out.c2
      have s3 := HS2.out.c3
      have s4 := HS2.out.c4
      have sf := HS2.out.fz
      simp only [] at s2 s4
      have HIB := hide (fun k hk => (HIO.out.lt k hk).1)
      have hat := (HRL.out rfl).2
      subst hat
      clear hna7 hex7 hf7 g0 g1 g2 gf k0 c0 c1 HCL HI0 HI1 HIO HIO2 HS1
      go_upto_region 9 with fail
      have HE8 : Hid (Ex (fun k => k = s ∨ k = b) w (((w7.setCell ⟨s, 2, none⟩ (.int .i64 id)).setCell ⟨s, 3, none⟩ (.slice ia U.length ic)).setCell ⟨s, 4, none⟩ (.bool true))) := ((HE7.out.set (p := s) (.inl rfl) _).set (p := s) (.inl rfl) _).set (p := s) (.inl rfl) _
      have hsr : ¬ r1 = s := hrs
      have m0 := set_cell_ne (w7.setCell ⟨s, 2, none⟩ (.int .i64 id) |>.setCell ⟨s, 3, none⟩ (.slice ia U.length ic)) s 4 r1 0 (.bool true) hsr |>.trans ((set_cell_ne _ s 3 r1 0 _ hsr).trans ((set_cell_ne w7 s 2 r1 0 _ hsr).trans m0))
      have m1 := set_cell_ne (w7.setCell ⟨s, 2, none⟩ (.int .i64 id) |>.setCell ⟨s, 3, none⟩ (.slice ia U.length ic)) s 4 r1 1 (.bool true) hsr |>.trans ((set_cell_ne _ s 3 r1 1 _ hsr).trans ((set_cell_ne w7 s 2 r1 1 _ hsr).trans m1))
      have m2 := set_cell_ne (w7.setCell ⟨s, 2, none⟩ (.int .i64 id) |>.setCell ⟨s, 3, none⟩ (.slice ia U.length ic)) s 4 r1 2 (.bool true) hsr |>.trans ((set_cell_ne _ s 3 r1 2 _ hsr).trans ((set_cell_ne w7 s 2 r1 2 _ hsr).trans m2))
      have mf : ∀ j, (((w7.setCell ⟨s, 2, none⟩ (.int .i64 id)).setCell ⟨s, 3, none⟩ (.slice ia U.length ic)).setCell ⟨s, 4, none⟩ (.bool true)).frozen? ⟨r1, j, none⟩ = false := fun j => by rw [set_frozen, set_frozen, set_frozen]; exact mf j
      generalize ((w7.setCell ⟨s, 2, none⟩ (.int .i64 id)).setCell ⟨s, 3, none⟩ (.slice ia U.length ic)).setCell ⟨s, 4, none⟩ (.bool true) = W9 at *
      clear s2 s3 s4 sf l0 l1
      go_wp2
      refine bodyPost_ret (v := ansV 0 0 ⟨#[]⟩) (by simp [results, Try.results23, go_sem, ansV, m0, m1, m2]) rfl ⟨rfl, ?_, vr', va', .slice ia U.length ic, ?_, HFT.out, fun k hk => .inr (by have := HIB.out k hk; omega)⟩
      · exact ((HE8.out.setNew (p := r1) (by omega) _).setNew (p := r1) (by omega) _).setNew (p := r1) (by omega) _
      · rw [HAS.out]
        refine HS3.out.keep ((((Ex.refl (fun k => k = r1) W9).set (p := r1) rfl _).set (p := r1) rfl _).set (p := r1) rfl _) (fun z => hrs z.symm) HF1.out (fun k hk (z : k = r1) => by have := HTL.out k hk; omega) (fun k hk (z : k = r1) => by have := HIB.out k hk; omega)
  · rw [if_neg hz] at HAS
    have hzb : (er != 0) = true := by simp [hz]
    have HS1 := hide (HS.out.new hEX)
    have HE1 := hide (HE.out.trans hEX)
    clear hEX HAPP
    go_wp2
    refine bodyPost_ret (v := ansV er at_ ⟨#[]⟩) (by simp [results, Try.results23, go_sem, ansV, g0, g1, g2]) rfl ⟨rfl, ?_, vr, va, uv, ?_, fun k hk => .inl hk, fun k hk => .inl hk⟩
    · exact ((((HE1.out.mono (fun _ z => z.elim))).setNew (p := r1) (by omega) _).setNew (p := r1) (by omega) _).setNew (p := r1) (by omega) _
    · rw [HAS.out]
      refine HS1.out.keep ((((Ex.refl (fun k => k = r1) W1).set (p := r1) rfl _).set (p := r1) rfl _).set (p := r1) rfl _) (fun z => hrs z.symm) (fun k hk (z : k = r1) => by have := HFL.out k hk; omega) (fun k hk (z : k = r1) => by have := HTL.out k hk; omega) (fun k hk (z : k = r1) => by have := HUL.out k hk; omega)
end Go.Proofs.Qxb6500778a
