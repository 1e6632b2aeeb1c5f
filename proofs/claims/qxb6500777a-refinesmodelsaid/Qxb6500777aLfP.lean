import Derived.Test.Qxb6500777aLkP
namespace Go.Proofs.Qxb6500777a
open Go.RowKit

/-! ### Plain of ListFree -/
theorem LS.other {w0 w w' : World} {m p q b : Nat} {W : Nat → Tgt} {G : Nat → Int} {TT : Nat → Tbl} {N : Int} (h : LS w0 w m p q b W G TT N) {x lo n : Nat} (k : Fr x lo n w w') (h1 : m ≠ x) (h2 : p ≠ x) (h3 : q ≠ x) (h4 : b ≠ x) (hx : w0.heap.size ≤ x) : LS w0 w' m p q b W G TT N :=
  ⟨h.mt.keep k.ex h1, h.wr.keep k h2, h.pa.keep k h3, h.bd.keep k h4, h.ti, h.wo, h.gk, bel_fr h.bel k hx, h.ne, h.ge⟩
theorem fold_ge (team : Int) : ∀ (D : List Det) (f : Nat → Int) (i : Nat), f i ≤ D.foldl (fuseS team) f i
  | [], _, _ => Int.le_refl _
  | d :: D, f, i => by
    refine Int.le_trans ?_ (fold_ge team D _ i)
    unfold fuseS
    split
    · next h => unfold upd; split; (next e => rw [e]; omega); exact Int.le_refl _
    · exact Int.le_refl _
theorem fold_mem (team : Int) : ∀ (D : List Det) (f : Nat → Int) (d : Det), d ∈ D → d.team = team → soundP d = true → d.grade ≤ D.foldl (fuseS team) f d.target.toNat
  | [], _, _, h, _, _ => by cases h
  | e :: D, f, d, h, ht, hs => by
    rcases List.mem_cons.1 h with rfl | h
    · refine Int.le_trans ?_ (fold_ge team D _ _)
      unfold fuseS
      by_cases c : f d.target.toNat < d.grade
      · rw [if_pos ⟨ht, hs, c⟩, upd_same]; exact Int.le_refl _
      · rw [if_neg (fun z => c z.2.2)]; omega
    · exact fold_mem team D _ d h ht hs
theorem fold_att (team : Int) : ∀ (D : List Det) (f : Nat → Int) (i : Nat), D.foldl (fuseS team) f i = f i ∨ ∃ d ∈ D, d.team = team ∧ soundP d = true ∧ d.target.toNat = i ∧ d.grade = D.foldl (fuseS team) f i
  | [], _, _ => .inl rfl
  | d :: D, f, i => by
    rcases fold_att team D (fuseS team f d) i with h | ⟨e, he, h⟩
    · rw [List.foldl_cons, h]
      unfold fuseS
      split
      · next c =>
        by_cases e : i = d.target.toNat
        · right
          exact ⟨d, List.mem_cons_self .., c.1, c.2.1, e.symm, by rw [e, upd_same]⟩
        · left; exact upd_ne _ _ e
      · left; rfl
    · exact .inr ⟨e, List.mem_cons_of_mem _ he, h⟩
theorem fuse_mem {D : List Det} {team : Int} {d : Det} (h : d ∈ D) (ht : d.team = team) (hs : soundP d = true) : d.grade ≤ fuseP D team d.target.toNat := fold_mem team D _ d h ht hs
theorem fuse_att (D : List Det) (team : Int) (i : Nat) : fuseP D team i = 0 ∨ ∃ d ∈ D, d.team = team ∧ soundP d = true ∧ d.target.toNat = i ∧ d.grade = fuseP D team i := fold_att team D _ i
/-- The same sound records. -/
def SoundEq (A B : List Det) : Prop := ∀ d : Det, soundP d = true → 0 ≤ d.team → d.team < 4 → (d ∈ A ↔ d ∈ B)
theorem fuse_le {A B : List Det} {tm : Nat} (h4 : tm < 4) (h : SoundEq A B) (i : Nat) : fuseP A (tm : Int) i ≤ fuseP B (tm : Int) i := by
  rcases fuse_att A (tm : Int) i with z | ⟨d, hd, ht, hs, hi, hg⟩
  · rw [z]; exact (fuse_rng B tm i).1
  · rw [← hg, ← hi]
    exact fuse_mem ((h d hs (by omega) (by omega)).1 hd) ht hs
theorem fuse_eq {A B : List Det} {tm : Nat} (h4 : tm < 4) (h : SoundEq A B) : fuseP A (tm : Int) = fuseP B (tm : Int) := funext fun i => by
  have h1 := fuse_le h4 h i
  have h2 := fuse_le h4 (fun d a b c => (h d a b c).symm) i
  omega
theorem SoundEq.add {A B C : List Det} (h : SoundEq A B) (hc : ∀ d ∈ C, ¬ (soundP d = true ∧ 0 ≤ d.team ∧ d.team < 4)) : SoundEq (A ++ C) B := fun d a b c => by
  rw [List.mem_append, h d a b c]
  constructor
  · rintro (z | z)
    · exact z
    · exact absurd ⟨a, b, c⟩ (hc d z)
  · exact .inl
theorem SoundEq.both {A B : List Det} (h : SoundEq A B) (e : Det) : SoundEq (A ++ [e]) (e :: B) := fun d a b c => by
  rw [List.mem_append, h d a b c]
  simp only [List.mem_cons, List.not_mem_nil, or_false]
  exact Or.comm
/-- Ticks with the same sound records end alike. -/
theorem ticks_same {A B : List Det} {W : Nat → Tgt} {X Y : Nat → Int} {TT T1 T2 : Nat → Tbl} (h : SoundEq A B) (h1 : TicksR A W X Y TT T1) (h2 : TicksR B W X Y TT T2) : ∀ k, k < 4 → T1 k = T2 k := fun k hk => by
  have a := h1 k hk
  have b := h2 k hk
  rw [fuse_eq hk h] at a
  exact a.det b
/-! ### Census -/
def cenP (T : Tbl) (n : Nat) (s : Int) : Int := sumN (fun k => if (T.sl k).used = true ∧ (T.sl k).tr.st = s then 1 else 0) n
def cL (L : List Trk) (s : Int) : Int := (L.countP (fun t => decide (t.st = s)) : Nat)
theorem cen_tab (T : Tbl) (s : Int) : ∀ n, cL (tabN T n) s = cenP T n s
  | 0 => rfl
  | n + 1 => by
    have ih := cen_tab T s n
    have e : cenP T (n + 1) s = cenP T n s + (if (T.sl n).used = true ∧ (T.sl n).tr.st = s then 1 else 0) := rfl
    rw [e, ← ih, tabN]
    unfold cL
    by_cases hu : (T.sl n).used = true
    · rw [if_pos hu, (insT_perm _ _).countP_eq, List.countP_cons]
      by_cases hs : (T.sl n).tr.st = s <;> simp [hu, hs]
    · rw [if_neg hu]
      simp [hu]
theorem cen_rng (T : Tbl) (s : Int) : ∀ n : Nat, 0 ≤ cenP T n s ∧ cenP T n s ≤ n
  | 0 => by simp [cenP, sumN]
  | n + 1 => by
    have := cen_rng T s n
    have e : cenP T (n + 1) s = cenP T n s + (if (T.sl n).used = true ∧ (T.sl n).tr.st = s then 1 else 0) := rfl
    rw [e]
    split <;> omega
theorem cL_take {L : List Trk} {j : Nat} {d : Trk} (h : L[j]? = some d) (s : Int) : cL (L.take (j + 1)) s = cL (L.take j) s + (if d.st = s then 1 else 0) := by
  unfold cL
  rw [List.take_add_one, h, List.countP_append]
  by_cases e : d.st = s <;> simp [e]
theorem cL_rng (L : List Trk) (s : Int) : 0 ≤ cL L s ∧ cL L s ≤ L.length := by
  unfold cL
  have := List.countP_le_length (p := fun t : Trk => decide (t.st = s)) (l := L)
  omega
/-- Four whole numbers in block x. -/
structure CN (w : World) (x : Nat) (f : Nat → Int) : Prop where
  c : ∀ i, i < 4 → w.cell? ⟨x, i, none⟩ = some (.int .i64 (f i))
  f : ∀ j, w.frozen? ⟨x, j, none⟩ = false
section
variable {w w' : World} {x : Nat} {f : Nat → Int}
theorem CN.lt (h : CN w x f) : x < w.heap.size := World.block_lt_of_cell? _ _ (h.c 0 (by omega))
theorem CN.below (h : CN w x f) (hb : Below w.heap.size w w') : CN w' x f := ⟨fun i hi => cellKeep hb (h.c i hi), fun j => (World.frozen?_of_block (hb.block x h.lt)).trans (h.f j)⟩
theorem CN.set (h : CN w x f) {i : Nat} (hi : i < 4) (u : Int) : CN (w.setCell ⟨x, i, none⟩ (.int .i64 u)) x (upd f i u) := by
  refine ⟨fun j hj => ?_, fun j => by rw [set_frozen]; exact h.f j⟩
  by_cases e : j = i
  · subst e; rw [upd_same]; exact World.cell?_setCell_same _ _ _ (h.c j hj)
  · rw [upd_ne _ _ e, World.cell?_setCell_other _ _ _ _ (by simp <;> omega)]; exact h.c j hj
theorem CN.congr (h : CN w x f) {g : Nat → Int} (e : ∀ i, i < 4 → f i = g i) : CN w x g := ⟨fun i hi => by rw [← e i hi]; exact h.c i hi, h.f⟩
end
def CePost (w : World) (T : Tbl) (e : Ending) (w' : World) : Prop := e = .returned (.agg #[.int .i64 (cenP T 64 0), .int .i64 (cenP T 64 1), .int .i64 (cenP T 64 2), .int .i64 (cenP T 64 3)]) ∧ Below w.heap.size w w'
theorem new_cn (w : World) (a b c d : Int) : CN (w.alloc (.cells #[.int .i64 a, .int .i64 b, .int .i64 c, .int .i64 d] 75)) w.heap.size (fun i => if i = 0 then a else if i = 1 then b else if i = 2 then c else d) := by
  refine ⟨fun i hi => ?_, fun j => by simp [go_sem]⟩
  rcases (by omega : i = 0 ∨ i = 1 ∨ i = 2 ∨ i = 3) with rfl | rfl | rfl | rfl <;> simp [go_sem]
set_option maxRecDepth 100000 in
set_option maxHeartbeats 4000000 in
/-- tracks.Board.Census -/
theorem census_any (w : World) (b tm : Nat) (htm : tm < 4) (T : Tbl) (h : TA w b (1 + tm * 754) T) (hi : TInv T) : Calls Try.prog 38 #[.pointer (some ⟨b, 0, none⟩), .int .i64 tm] w (CePost w T) := by
  have htmi : (tm : Int) < 4 := by omega
  have htm0 : decide ((tm : Int) < 0) = false := by simp
  have HT := hide h
  have HI := hide hi
  clear h hi
  obtain ⟨o, ho⟩ : ∃ o, 1 + tm * 754 = o := ⟨_, rfl⟩
  rw [ho] at HT
  go_enter Try.func38, Try.ntmps38
  go_upto_region 2 with fail
  have HB := hide (be2 w (.cells #[.int .i64 0, .int .i64 0, .int .i64 0, .int .i64 0] 75) (.cells #[.int .i64 0, .int .i64 0, .int .i64 0, .int .i64 0] 75))
  have HC := hide (new_cn (w.alloc (.cells #[.int .i64 0, .int .i64 0, .int .i64 0, .int .i64 0] 75)) 0 0 0 0)
  have HR := hide ((new_cn w 0 0 0 0).below (be1 _ (.cells #[.int .i64 0, .int .i64 0, .int .i64 0, .int .i64 0] 75)))
  have hz : (w.alloc (.cells #[.int .i64 0, .int .i64 0, .int .i64 0, .int .i64 0] 75)).heap.size = w.heap.size + 1 := by simp
  rw [hz] at HC
  generalize (w.alloc (.cells #[.int .i64 0, .int .i64 0, .int .i64 0, .int .i64 0] 75)).alloc (.cells #[.int .i64 0, .int .i64 0, .int .i64 0, .int .i64 0] 75) = w1 at *
  clear hz
  obtain ⟨x, hx⟩ : ∃ x, w.heap.size + 1 = x := ⟨_, rfl⟩
  have hxg : w.heap.size ≤ x := by omega
  have hxr : w.heap.size ≠ x := by omega
  rw [hx] at HC ⊢
  clear hx
  obtain ⟨r, hr⟩ : ∃ r, w.heap.size = r := ⟨_, rfl⟩
  have hrg : w.heap.size ≤ r := by omega
  rw [hr] at HR hxr ⊢
  clear hr
  go_wp2
  go_loopw [6] (fun s6 wr => ∃ i : Nat, i ≤ 64 ∧ s6 = .int .i64 i ∧ CN wr x (fun s => cenP T i s) ∧ CN wr r (fun _ => 0) ∧ Below w.heap.size w wr) (fun s6 _ => 64 - (intOf s6).toNat)
  case atStart => exact ⟨0, by omega, rfl, HC.out.congr (fun i hi => by rcases (by omega : i = 0 ∨ i = 1 ∨ i = 2 ∨ i = 3) with rfl | rfl | rfl | rfl <;> rfl), HR.out.congr (fun i hi => by rcases (by omega : i = 0 ∨ i = 1 ∨ i = 2 ∨ i = 3) with rfl | rfl | rfl | rfl <;> rfl), HB.out⟩
  case round =>
    clear HC HR HB
    obtain ⟨i, hi, rfl, hc, hr, hb⟩ := hrel
    have HC := hide hc
    have HR := hide hr
    have HB := hide hb
    clear hc hr hb
    by_cases hi64 : i < 64
    · have hi64i : (i : Int) < 64 := by omega
      have HX := hide (show ∀ s, cenP T (i + 1) s = cenP T i s + (if (T.sl i).used = true ∧ (T.sl i).tr.st = s then 1 else 0) from fun _ => rfl)
      obtain ⟨a0, a1, a2, a3, a4, a5, a6, a7, a8, a9⟩ := ((HT.out.below HB.out).sl i hi64).sl
      have hst := (HI.out.ok i hi64).tr.st
      obtain ⟨s, hs⟩ : ∃ s, T.sl i = s := ⟨_, rfl⟩
      rw [hs] at a0 a8 HX hst
      clear a1 a2 a3 a4 a5 a6 a7 a9 hs
      cases hu : s.used
      · rw [hu] at a0 HX
        clear hu
        go_wp2
        go_roundw
        case rel => exact ⟨i + 1, by omega, by simp, HC.out.congr (fun s _ => by rw [HX.out]; simp), HR.out, HB.out⟩
        case measure => simp [intOf]; omega
      · rw [hu] at a0 HX
        clear hu
        obtain ⟨y, hy⟩ : ∃ y : Nat, s.tr.st = y := ⟨s.tr.st.toNat, by omega⟩
        rw [hy] at a8 HX
        have hy4 : y < 4 := by omega
        have hy4i : (y : Int) < 4 := by omega
        have c0 := HC.out.c y hy4
        have f0 := HC.out.f y
        have hcr := cen_rng T (y : Int) i
        have hwc : IntKind.i64.wrap (cenP T i (y : Int) + 1) = cenP T i (y : Int) + 1 := by rw [IntKind.wrap_i64]; omega
        have HS := hide (HC.out.set hy4 (cenP T i (y : Int) + 1))
        have HK := hide (show CN (wr.setCell ⟨x, y, none⟩ (.int .i64 (cenP T i (y : Int) + 1))) r (fun _ => 0) from ⟨fun j hj => by rw [set_cell_ne _ _ _ _ _ _ hxr]; exact HR.out.c j hj, fun j => by rw [set_frozen]; exact HR.out.f j⟩)
        have HBB := hide (HB.out.setCell (p := ⟨x, y, none⟩) hxg (.int .i64 (cenP T i (y : Int) + 1)))
        clear hst hy hcr
        go_wp2
        go_roundw
        case rel => exact ⟨i + 1, by omega, by simp, HS.out.congr (fun s hs => by
          rw [HX.out]
          by_cases e : s = y
          · subst e; rw [upd_same]; simp
          · rw [upd_ne _ _ e, if_neg (fun z => e (by have := z.2; omega))]; omega), HK.out, HBB.out⟩
        case measure => simp [intOf]; omega
    · obtain rfl : i = 64 := by omega
      rw [show ((64 : Nat) : Int) = 64 from rfl]
      have c0 := HC.out.c 0 (by omega)
      have c1 := HC.out.c 1 (by omega)
      have c2 := HC.out.c 2 (by omega)
      have c3 := HC.out.c 3 (by omega)
      have r0 := HR.out.c 0 (by omega)
      have r1 := HR.out.c 1 (by omega)
      have r2 := HR.out.c 2 (by omega)
      have r3 := HR.out.c 3 (by omega)
      have rf := HR.out.f
      have HBB := hide ((((HB.out.setCell (p := ⟨r, 0, none⟩) hrg (.int .i64 (cenP T 64 0))).setCell (p := ⟨r, 1, none⟩) hrg (.int .i64 (cenP T 64 1))).setCell (p := ⟨r, 2, none⟩) hrg (.int .i64 (cenP T 64 2))).setCell (p := ⟨r, 3, none⟩) hrg (.int .i64 (cenP T 64 3)))
      go_wp2
      exact bodyPost_ret (v := .agg #[.int .i64 (cenP T 64 0), .int .i64 (cenP T 64 1), .int .i64 (cenP T 64 2), .int .i64 (cenP T 64 3)]) (by simp [results, Try.results38, go_sem, r0, r1, r2, r3]) rfl ⟨rfl, HBB.out⟩
end Go.Proofs.Qxb6500777a
