import Derived.Test.Qxb6500778aS9
namespace Go.Proofs.Qxb6500778a
open Go.RowKit

def offP (x : Sn) (p : Opn) : Int × List Chg × Bool :=
  if p.kd = 3 then (p.a, x.st, true) else if p.kd = 1 then ((parseP p.d).id, (parseP p.d).cs, decide ((parseP p.d).er = 0)) else (0, [], false)
def OPost (w : World) (sv : Value) (F : Prop) (R : Int × List Chg × Bool) (e : Ending) (w' : World) : Prop :=
  ∃ v, e = .returned (.tuple #[.agg #[.int .i64 R.1, v], .bool R.2.2]) ∧ Ex (fun _ => False) w w' ∧ w'.ownsRow 0 45 9 v R.2.1.length (flatC R.2.1) ∧ ∀ k, v.ownBlock = some k → (F ∧ sv.ownBlock = some k) ∨ w.heap.size ≤ k
set_option linter.unusedSimpArgs false in
set_option maxRecDepth 100000 in
set_option maxHeartbeats 16000000 in
theorem off_other (w : World) (s b : Nat) (x : Sn) (vr va : Nat → Value) (sv uv : Value) (kd : Int) (a : Int) (c : Chg) (da : Option Addr) (d : List Int) (cp : Nat) (h : SS w s b x vr va sv uv) (h1 : kd ≠ 1) (h3 : kd ≠ 3) :
    Calls Try.prog 16 #[.pointer (some ⟨s, 0, none⟩), .agg #[.int .i64 kd, .int .i64 a, .int .i64 c.kd, .int .i64 c.dv, .int .i64 c.hp, .int .i64 c.pr, .int .i64 c.ln, .int .i64 c.ix, .int .i64 c.cl, .bool c.pm, .bool c.up, .slice da d.length cp]] w (OPost w sv False ((0, [], false))) := by
  obtain ⟨W, hW⟩ : ∃ W, W = (w.alloc (.cells #[.int .i64 kd, .int .i64 a, .int .i64 c.kd, .int .i64 c.dv, .int .i64 c.hp, .int .i64 c.pr, .int .i64 c.ln, .int .i64 c.ix, .int .i64 c.cl, .bool c.pm, .bool c.up, .slice da d.length cp] 48)).alloc (.cells #[.int .i64 0, .slice none 0 0] 52) := ⟨_, rfl⟩
  have HE : Hid (Ex (fun _ => False) w W) := by rw [hW]; exact ((Ex.refl _ w).alloc _).alloc _
  have HS := hide (h.new HE.out)
  have nd := fun j u h => new_cells (w.alloc (.cells #[.int .i64 kd, .int .i64 a, .int .i64 c.kd, .int .i64 c.dv, .int .i64 c.hp, .int .i64 c.pr, .int .i64 c.ln, .int .i64 c.ix, .int .i64 c.cl, .bool c.pm, .bool c.up, .slice da d.length cp] 48)) [.int .i64 0, .slice none 0 0] 52 j u h
  have d0 := nd 0 _ rfl
  have d1 := nd 1 _ rfl
  rw [show (w.alloc (.cells #[.int .i64 kd, .int .i64 a, .int .i64 c.kd, .int .i64 c.dv, .int .i64 c.hp, .int .i64 c.pr, .int .i64 c.ln, .int .i64 c.ix, .int .i64 c.cl, .bool c.pm, .bool c.up, .slice da d.length cp] 48)).heap.size = w.heap.size + 1 by simp] at d0 d1
  simp only [Addr.add_mid, Nat.zero_add] at d0 d1
  replace d0 : W.cell? ⟨w.heap.size + 1, 0, none⟩ = some (.int .i64 0) := by rw [hW]; exact d0
  replace d1 : W.cell? ⟨w.heap.size + 1, 1, none⟩ = some (.slice none 0 0) := by rw [hW]; exact d1
  have df : ∀ j, W.frozen? ⟨w.heap.size + 1, j, none⟩ = false := fun j => by rw [hW]; simp [go_sem]
  have HBX : Hid (∀ j u, (#[.int .i64 kd, .int .i64 a, .int .i64 c.kd, .int .i64 c.dv, .int .i64 c.hp, .int .i64 c.pr, .int .i64 c.ln, .int .i64 c.ix, .int .i64 c.cl, .bool c.pm, .bool c.up, .slice da d.length cp].toList)[j]? = some u → W.cell? ⟨w.heap.size, j, none⟩ = some u) := fun j u hj => by
    have h1 := new_cells w [.int .i64 kd, .int .i64 a, .int .i64 c.kd, .int .i64 c.dv, .int .i64 c.hp, .int .i64 c.pr, .int .i64 c.ln, .int .i64 c.ix, .int .i64 c.cl, .bool c.pm, .bool c.up, .slice da d.length cp] 48 j u hj
    rw [Addr.add_mid, Nat.zero_add] at h1
    rw [hW]
    exact ((Ex.refl (fun _ => False) _).alloc _).cell (fun e => e) h1
  have hsl := h.lt
  have HTL : Hid (∀ k, sv.ownBlock = some k → k < w.heap.size) := fun k hk => (h.st.lt k hk).2
  go_enter Try.func16, Try.ntmps16
  go_upto_region 1 with fail
  rw [← hW]
  clear hW h nd
  obtain ⟨r1, hr1⟩ : ∃ r, w.heap.size + 1 = r := ⟨_, rfl⟩
  rw [hr1] at d0 d1 df ⊢
  obtain ⟨r0, hr0⟩ : ∃ r, w.heap.size = r := ⟨_, rfl⟩
  rw [hr0] at HBX ⊢
  have k0 := HBX.out 0 _ rfl
  have e3 : (kd == 3) = false := by simpa using h3
  have e1 : (kd == 1) = false := by simpa using h1
  clear h1 h3
  go_wp2
  refine bodyPost_ret (v := .tuple #[.agg #[.int .i64 0, .slice none 0 0], .bool false]) (by simp [results, Try.results16, go_sem, d0, d1]) rfl ⟨_, rfl, (HE.out.setNew (p := r1) (by omega) _).setNew (p := r1) (by omega) _, World.ownsRow_nil _ _ _ _, fun k hk => by cases hk⟩
set_option linter.unusedSimpArgs false in
set_option maxRecDepth 100000 in
set_option maxHeartbeats 16000000 in
theorem off_commit (w : World) (s b : Nat) (x : Sn) (vr va : Nat → Value) (sv uv : Value) (a : Int) (c : Chg) (da : Option Addr) (d : List Int) (cp : Nat) (h : SS w s b x vr va sv uv) :
    Calls Try.prog 16 #[.pointer (some ⟨s, 0, none⟩), .agg #[.int .i64 3, .int .i64 a, .int .i64 c.kd, .int .i64 c.dv, .int .i64 c.hp, .int .i64 c.pr, .int .i64 c.ln, .int .i64 c.ix, .int .i64 c.cl, .bool c.pm, .bool c.up, .slice da d.length cp]] w (OPost w sv True ((a, x.st, true))) := by
  obtain ⟨W, hW⟩ : ∃ W, W = (w.alloc (.cells #[.int .i64 3, .int .i64 a, .int .i64 c.kd, .int .i64 c.dv, .int .i64 c.hp, .int .i64 c.pr, .int .i64 c.ln, .int .i64 c.ix, .int .i64 c.cl, .bool c.pm, .bool c.up, .slice da d.length cp] 48)).alloc (.cells #[.int .i64 0, .slice none 0 0] 52) := ⟨_, rfl⟩
  have HE : Hid (Ex (fun _ => False) w W) := by rw [hW]; exact ((Ex.refl _ w).alloc _).alloc _
  have HS := hide (h.new HE.out)
  have nd := fun j u h => new_cells (w.alloc (.cells #[.int .i64 3, .int .i64 a, .int .i64 c.kd, .int .i64 c.dv, .int .i64 c.hp, .int .i64 c.pr, .int .i64 c.ln, .int .i64 c.ix, .int .i64 c.cl, .bool c.pm, .bool c.up, .slice da d.length cp] 48)) [.int .i64 0, .slice none 0 0] 52 j u h
  have d0 := nd 0 _ rfl
  have d1 := nd 1 _ rfl
  rw [show (w.alloc (.cells #[.int .i64 3, .int .i64 a, .int .i64 c.kd, .int .i64 c.dv, .int .i64 c.hp, .int .i64 c.pr, .int .i64 c.ln, .int .i64 c.ix, .int .i64 c.cl, .bool c.pm, .bool c.up, .slice da d.length cp] 48)).heap.size = w.heap.size + 1 by simp] at d0 d1
  simp only [Addr.add_mid, Nat.zero_add] at d0 d1
  replace d0 : W.cell? ⟨w.heap.size + 1, 0, none⟩ = some (.int .i64 0) := by rw [hW]; exact d0
  replace d1 : W.cell? ⟨w.heap.size + 1, 1, none⟩ = some (.slice none 0 0) := by rw [hW]; exact d1
  have df : ∀ j, W.frozen? ⟨w.heap.size + 1, j, none⟩ = false := fun j => by rw [hW]; simp [go_sem]
  have HBX : Hid (∀ j u, (#[.int .i64 3, .int .i64 a, .int .i64 c.kd, .int .i64 c.dv, .int .i64 c.hp, .int .i64 c.pr, .int .i64 c.ln, .int .i64 c.ix, .int .i64 c.cl, .bool c.pm, .bool c.up, .slice da d.length cp].toList)[j]? = some u → W.cell? ⟨w.heap.size, j, none⟩ = some u) := fun j u hj => by
    have h1 := new_cells w [.int .i64 3, .int .i64 a, .int .i64 c.kd, .int .i64 c.dv, .int .i64 c.hp, .int .i64 c.pr, .int .i64 c.ln, .int .i64 c.ix, .int .i64 c.cl, .bool c.pm, .bool c.up, .slice da d.length cp] 48 j u hj
    rw [Addr.add_mid, Nat.zero_add] at h1
    rw [hW]
    exact ((Ex.refl (fun _ => False) _).alloc _).cell (fun e => e) h1
  have hsl := h.lt
  have HTL : Hid (∀ k, sv.ownBlock = some k → k < w.heap.size) := fun k hk => (h.st.lt k hk).2
  go_enter Try.func16, Try.ntmps16
  go_upto_region 1 with fail
  rw [← hW]
  clear hW h nd
  obtain ⟨r1, hr1⟩ : ∃ r, w.heap.size + 1 = r := ⟨_, rfl⟩
  rw [hr1] at d0 d1 df ⊢
  obtain ⟨r0, hr0⟩ : ∃ r, w.heap.size = r := ⟨_, rfl⟩
  rw [hr0] at HBX ⊢
  have k0 := HBX.out 0 _ rfl
  obtain ⟨sa, sc, hsv⟩ := own_len HS.out.st
  subst hsv
  have k1 := HBX.out 1 _ rfl
  have s1 := HS.out.c1
  have hr0l : r0 < W.heap.size := World.block_lt_of_cell? _ _ k1
  have n01 : ¬ r0 = r1 := by omega
  have ns1 : ¬ s = r1 := by omega
  go_upto_region 2 with fail
  clear k0
  refine wp_region_held_drew (S := fun w' => w'.cell? ⟨r0, 1, none⟩ = some (.int .i64 a) ∧ w'.cell? ⟨s, 1, none⟩ = some (.slice sa x.st.length sc)) (by kernel_rfl) (And.intro k1 s1) (fun hHeld => ?_)
  refine wpAnyH_take (i := 0) (v := ?_) rfl (by kernel_rfl) (by kernel_rfl) (by kernel_rfl) (fun _ _ _ h => h) (Or.inl ⟨by rfl, ?_⟩) (by assumption) ?_
  rotate_left
  · (intro w hSw; (try dsimp only at hSw); go_simp; try (with_reducible rfl))
  try simp only [Act.put, List.getElem_toArray, List.getElem_cons_zero, List.getElem_cons_succ, List.setIfInBounds_toArray, List.set_cons_zero, List.set_cons_succ]
  refine wpAnyH_take (i := 1) (v := ?_) rfl (by kernel_rfl) (by kernel_rfl) (by kernel_rfl) (fun _ _ _ h => h) (Or.inl ⟨by rfl, ?_⟩) (by assumption) ?_
  rotate_left
  · (intro w hSw; (try dsimp only at hSw); go_simp; try (with_reducible rfl))
  try simp only [Act.put, List.getElem_toArray, List.getElem_cons_zero, List.getElem_cons_succ, List.setIfInBounds_toArray, List.set_cons_zero, List.set_cons_succ]
  refine wpAnyH_take (i := 2) (v := ?_) rfl (by kernel_rfl) (by kernel_rfl) (by kernel_rfl) (fun _ _ _ h => h) (Or.inl ⟨by rfl, ?_⟩) (by assumption) ?_
  rotate_left
  · (intro w hSw; (try dsimp only at hSw); go_simp; try (with_reducible rfl))
  try simp only [Act.put, List.getElem_toArray, List.getElem_cons_zero, List.getElem_cons_succ, List.setIfInBounds_toArray, List.set_cons_zero, List.set_cons_succ]
  refine wpAnyH_take (i := 3) (v := ?_) rfl (by kernel_rfl) (by kernel_rfl) (by kernel_rfl) (fun _ _ _ h => h) (Or.inl ⟨by rfl, ?_⟩) (by assumption) ?_
  rotate_left
  · (intro w hSw; (try dsimp only at hSw); go_simp; try (with_reducible rfl))
  try simp only [Act.put, List.getElem_toArray, List.getElem_cons_zero, List.getElem_cons_succ, List.setIfInBounds_toArray, List.set_cons_zero, List.set_cons_succ]
  refine wpAnyH_take (i := 4) (v := ?_) rfl (by kernel_rfl) (by kernel_rfl) (by kernel_rfl) (fun _ _ _ h => h) (Or.inl ⟨by rfl, ?_⟩) (by assumption) ?_
  rotate_left
  · (intro w hSw; (try dsimp only at hSw); go_simp; try (with_reducible rfl))
  try simp only [Act.put, List.getElem_toArray, List.getElem_cons_zero, List.getElem_cons_succ, List.setIfInBounds_toArray, List.set_cons_zero, List.set_cons_succ]
  refine wpAnyH_take (i := 5) (v := ?_) rfl (by kernel_rfl) (by kernel_rfl) (by kernel_rfl) (fun _ _ _ h => h) (Or.inl ⟨by rfl, ?_⟩) (by assumption) ?_
  rotate_left
  · (intro w hSw; (try dsimp only at hSw); go_simp; try (with_reducible rfl))
  try simp only [Act.put, List.getElem_toArray, List.getElem_cons_zero, List.getElem_cons_succ, List.setIfInBounds_toArray, List.set_cons_zero, List.set_cons_succ]
  refine wpAnyH_take (i := 6) (v := ?_) rfl (by kernel_rfl) (by kernel_rfl) (by kernel_rfl) (fun _ _ _ h => h) (Or.inl ⟨by rfl, ?_⟩) (by assumption) ?_
  rotate_left
  · (intro w hSw; (try dsimp only at hSw); go_simp; try (with_reducible rfl))
  try simp only [Act.put, List.getElem_toArray, List.getElem_cons_zero, List.getElem_cons_succ, List.setIfInBounds_toArray, List.set_cons_zero, List.set_cons_succ]
  refine wpAnyH_ready (rs := [7]) (by kernel_rfl) (by simp) ?_
  refine (AllReadyH.cons rfl (fun K hK => ?_) AllReadyH.nil)
  · go_simp
    refine hK.out _ _ ?_ (fun hHeld => ?_)
    · first | exact hHeld | (simp [go_sem, k1, s1, n01, ns1]; done)
    clear hK K
    try simp only [Act.put, List.getElem_toArray, List.getElem_cons_zero, List.getElem_cons_succ, List.setIfInBounds_toArray, List.set_cons_zero, List.set_cons_succ]
    refine wpAnyH_take (i := 8) (v := ?_) rfl (by kernel_rfl) (by kernel_rfl) (by kernel_rfl) (fun _ _ _ h => h) (Or.inl ⟨by rfl, ?_⟩) (by assumption) ?_
    rotate_left
    · (intro w hSw; (try dsimp only at hSw); go_simp; try (with_reducible rfl))
    try simp only [Act.put, List.getElem_toArray, List.getElem_cons_zero, List.getElem_cons_succ, List.setIfInBounds_toArray, List.set_cons_zero, List.set_cons_succ]
    refine wpAnyH_done (by kernel_rfl) ?_ _
    clear hHeld
    have HOW := hide (own_low (own_kept HS.out.st ((((Ex.refl (fun k => k = r1) W).set (p := r1) (j := 0) rfl (.int .i64 a)).set (p := r1) (j := 1) rfl (.slice sa x.st.length sc)).drew) (fun k hk (z : k = r1) => by have := HTL.out k hk; omega)) (B' := 0) (Nat.zero_le _))
    have HEF := hide (((HE.out.setNew (p := r1) (j := 0) (by omega) (.int .i64 a)).setNew (p := r1) (j := 1) (by omega) (.slice sa x.st.length sc)).drew)
    have q1' : (W.setCell ⟨r1, 0, none⟩ (.int .i64 a)).cell? ⟨r1, 1, none⟩ = some (.slice none 0 0) := by rw [set_at _ _ _ _ _ _ d0, if_neg (by omega)]; exact d1
    have q1 : ((W.setCell ⟨r1, 0, none⟩ (.int .i64 a)).setCell ⟨r1, 1, none⟩ (.slice sa x.st.length sc)).drew.cell? ⟨r1, 1, none⟩ = some (.slice sa x.st.length sc) := World.cell?_setCell_same _ _ _ q1'
    have q0 : ((W.setCell ⟨r1, 0, none⟩ (.int .i64 a)).setCell ⟨r1, 1, none⟩ (.slice sa x.st.length sc)).drew.cell? ⟨r1, 0, none⟩ = some (.int .i64 a) := (set_at _ _ _ _ _ _ q1').trans (by rw [if_neg (by omega)]; exact World.cell?_setCell_same _ _ _ d0)
    clear k1 s1 d0 d1 q1'
    generalize ((W.setCell ⟨r1, 0, none⟩ (.int .i64 a)).setCell ⟨r1, 1, none⟩ (.slice sa x.st.length sc)).drew = W1 at *
    go_wp2
    refine bodyPost_ret (v := .tuple #[.agg #[.int .i64 a, .slice sa x.st.length sc], .bool true]) (by simp [results, Try.results16, go_sem, q0, q1]) rfl ⟨_, rfl, HEF.out, HOW.out, fun k hk => .inl ⟨trivial, hk⟩⟩
set_option linter.unusedSimpArgs false in
set_option maxRecDepth 100000 in
set_option maxHeartbeats 16000000 in
theorem off_sub (w : World) (s b : Nat) (x : Sn) (vr va : Nat → Value) (sv uv : Value) (a : Int) (c : Chg) (da : Option Addr) (d : List Int) (cp : Nat) (h : SS w s b x vr va sv uv) (hl : d.length ≤ 9223372036854775807) (hcp : d.length ≤ cp) (hsrc : SrcAt w da d) :
    Calls Try.prog 16 #[.pointer (some ⟨s, 0, none⟩), .agg #[.int .i64 1, .int .i64 a, .int .i64 c.kd, .int .i64 c.dv, .int .i64 c.hp, .int .i64 c.pr, .int .i64 c.ln, .int .i64 c.ix, .int .i64 c.cl, .bool c.pm, .bool c.up, .slice da d.length cp]] w (OPost w sv False (((parseP d).id, (parseP d).cs, decide ((parseP d).er = 0)))) := by
  obtain ⟨W, hW⟩ : ∃ W, W = (w.alloc (.cells #[.int .i64 1, .int .i64 a, .int .i64 c.kd, .int .i64 c.dv, .int .i64 c.hp, .int .i64 c.pr, .int .i64 c.ln, .int .i64 c.ix, .int .i64 c.cl, .bool c.pm, .bool c.up, .slice da d.length cp] 48)).alloc (.cells #[.int .i64 0, .slice none 0 0] 52) := ⟨_, rfl⟩
  have HE : Hid (Ex (fun _ => False) w W) := by rw [hW]; exact ((Ex.refl _ w).alloc _).alloc _
  have HS := hide (h.new HE.out)
  have nd := fun j u h => new_cells (w.alloc (.cells #[.int .i64 1, .int .i64 a, .int .i64 c.kd, .int .i64 c.dv, .int .i64 c.hp, .int .i64 c.pr, .int .i64 c.ln, .int .i64 c.ix, .int .i64 c.cl, .bool c.pm, .bool c.up, .slice da d.length cp] 48)) [.int .i64 0, .slice none 0 0] 52 j u h
  have d0 := nd 0 _ rfl
  have d1 := nd 1 _ rfl
  rw [show (w.alloc (.cells #[.int .i64 1, .int .i64 a, .int .i64 c.kd, .int .i64 c.dv, .int .i64 c.hp, .int .i64 c.pr, .int .i64 c.ln, .int .i64 c.ix, .int .i64 c.cl, .bool c.pm, .bool c.up, .slice da d.length cp] 48)).heap.size = w.heap.size + 1 by simp] at d0 d1
  simp only [Addr.add_mid, Nat.zero_add] at d0 d1
  replace d0 : W.cell? ⟨w.heap.size + 1, 0, none⟩ = some (.int .i64 0) := by rw [hW]; exact d0
  replace d1 : W.cell? ⟨w.heap.size + 1, 1, none⟩ = some (.slice none 0 0) := by rw [hW]; exact d1
  have df : ∀ j, W.frozen? ⟨w.heap.size + 1, j, none⟩ = false := fun j => by rw [hW]; simp [go_sem]
  have HBX : Hid (∀ j u, (#[.int .i64 1, .int .i64 a, .int .i64 c.kd, .int .i64 c.dv, .int .i64 c.hp, .int .i64 c.pr, .int .i64 c.ln, .int .i64 c.ix, .int .i64 c.cl, .bool c.pm, .bool c.up, .slice da d.length cp].toList)[j]? = some u → W.cell? ⟨w.heap.size, j, none⟩ = some u) := fun j u hj => by
    have h1 := new_cells w [.int .i64 1, .int .i64 a, .int .i64 c.kd, .int .i64 c.dv, .int .i64 c.hp, .int .i64 c.pr, .int .i64 c.ln, .int .i64 c.ix, .int .i64 c.cl, .bool c.pm, .bool c.up, .slice da d.length cp] 48 j u hj
    rw [Addr.add_mid, Nat.zero_add] at h1
    rw [hW]
    exact ((Ex.refl (fun _ => False) _).alloc _).cell (fun e => e) h1
  have hsl := h.lt
  have HTL : Hid (∀ k, sv.ownBlock = some k → k < w.heap.size) := fun k hk => (h.st.lt k hk).2
  go_enter Try.func16, Try.ntmps16
  go_upto_region 1 with fail
  rw [← hW]
  clear hW h nd
  obtain ⟨r1, hr1⟩ : ∃ r, w.heap.size + 1 = r := ⟨_, rfl⟩
  rw [hr1] at d0 d1 df ⊢
  obtain ⟨r0, hr0⟩ : ∃ r, w.heap.size = r := ⟨_, rfl⟩
  rw [hr0] at HBX ⊢
  have k0 := HBX.out 0 _ rfl
  have k11 := HBX.out 11 _ rfl
  have HPS := hide (parse_any W da cp d hl hcp (fun i y hy => by
    obtain ⟨g, off, e, hx⟩ := hsrc i y hy
    exact ⟨g, off, e, HE.out.cell (fun e => e) hx⟩))
  obtain ⟨pid, pcs, per, pat, hP⟩ : ∃ q r t u, parseP d = ⟨q, r, t, u⟩ := ⟨_, _, _, _, rfl⟩
  rw [hP] at HPS
  have HP := hide hP
  clear hP hsrc hl hcp
  go_wp2_with fail
  refine HPS.out.mono ?_
  rintro e w3 ⟨v, rfl, hbel, hown⟩
  obtain ⟨sa, sc, rfl⟩ := own_len hown
  simp only [] at hown ⊢
  have hr1W : r1 < W.heap.size := World.block_lt_of_cell? _ _ d0
  have hWw : w.heap.size ≤ W.heap.size := HE.out.size
  have HE3 : Hid (Ex (fun _ => False) W w3) := Ex.of hbel
  have EXA := hide ((Ex.of (S := fun _ => False) hbel).alloc (.cells #[.int .i64 pid, .slice sa pcs.length sc] 52))
  have HOW := hide (hown.alloc (.cells #[.int .i64 pid, .slice sa pcs.length sc] 52))
  have hn0 := new_cells w3 [.int .i64 pid, .slice sa pcs.length sc] 52 0 _ rfl
  have hn1 := new_cells w3 [.int .i64 pid, .slice sa pcs.length sc] 52 1 _ rfl
  simp only [Addr.add_mid, Nat.zero_add] at hn0 hn1
  have g0 := EXA.out.cell (fun e => e) d0
  have g1 := EXA.out.cell (fun e => e) d1
  have gf := fun j => (EXA.out.frozen (q := r1) (j := j) (fun e => e) hr1W).trans (df j)
  clear hbel hown HPS k11 d0 d1 df
  go_upto_region 5 with fail
  generalize w3.alloc (.cells #[.int .i64 pid, .slice sa pcs.length sc] 52) = W3 at *
  generalize w3.heap.size = r8 at *
  obtain ⟨bk, hbk⟩ : ∃ y, (per == 0) = y := ⟨_, rfl⟩
  have HBK : Hid (decide (per = 0) = bk) := by
    rw [← hbk]
    by_cases hz : per = 0
    · rw [decide_eq_true hz, hz]; rfl
    · rw [decide_eq_false hz]; exact (by simpa using hz : (per == 0) = false).symm
  go_wp2
  refine bodyPost_ret (v := .tuple #[.agg #[.int .i64 pid, .slice sa pcs.length sc], .bool bk]) (by simp [results, Try.results16, go_sem, g0, g1]) rfl ?_
  rw [HP.out]
  refine ⟨_, by simp only []; rw [HBK.out], ((HE.out.trans EXA.out).setNew (p := r1) (by omega) _).setNew (p := r1) (by omega) _, ?_, fun k hk => .inr (by have := (HOW.out.lt k hk).1; omega)⟩
  exact own_low (own_kept HOW.out (((Ex.refl (fun k => k = r1) W3).set (p := r1) (j := 0) rfl _).set (p := r1) (j := 1) rfl _) (fun k hk (z : k = r1) => by have := (HOW.out.lt k hk).1; omega)) (Nat.zero_le _)
/-- session.offered -/
theorem offered_any (w : World) (s b : Nat) (x : Sn) (vr va : Nat → Value) (sv uv : Value) (p : Opn) (da : Option Addr) (cp : Nat) (h : SS w s b x vr va sv uv) (hl : p.d.length ≤ 9223372036854775807) (hcp : p.d.length ≤ cp) (hsrc : SrcAt w da p.d) :
    Calls Try.prog 16 #[.pointer (some ⟨s, 0, none⟩), opV p da cp] w (OPost w sv (p.kd = 3) (offP x p)) := by
  obtain ⟨kd, a, c, d⟩ := p
  simp only [] at hl hcp hsrc
  have wk : ∀ {F G : Prop} {R : Int × List Chg × Bool}, (F → G) → Calls Try.prog 16 #[.pointer (some ⟨s, 0, none⟩), opV ⟨kd, a, c, d⟩ da cp] w (OPost w sv F R) → Calls Try.prog 16 #[.pointer (some ⟨s, 0, none⟩), opV ⟨kd, a, c, d⟩ da cp] w (OPost w sv G R) := fun hfg hh => hh.mono (fun e w' ⟨v, h1, h2, h3, h4⟩ => ⟨v, h1, h2, h3, fun k hk => by
    rcases h4 k hk with z | z
    · exact .inl ⟨hfg z.1, z.2⟩
    · exact .inr z⟩)
  unfold offP
  simp only []
  by_cases k3 : kd = 3
  · subst k3
    rw [if_pos rfl]
    exact wk (fun _ => rfl) (off_commit w s b x vr va sv uv a c da d cp h)
  · rw [if_neg k3]
    by_cases k1 : kd = 1
    · subst k1
      rw [if_pos rfl]
      exact wk (fun z => z.elim) (off_sub w s b x vr va sv uv a c da d cp h hl hcp hsrc)
    · rw [if_neg k1]
      exact wk (fun z => z.elim) (off_other w s b x vr va sv uv kd a c da d cp h k1 k3)
end Go.Proofs.Qxb6500778a
