import Derived.Test.Qxb6500777aOpS
import Derived.Test.Qxb6500777aObs
namespace Go.Proofs.Qxb6500777a
open Go.RowKit

/-- The blocks of the two runs. -/
structure ApO (m p q b p2 q2 b2 x : Nat) : Prop where
  a1 : m ≠ p ∧ m ≠ q ∧ m ≠ b ∧ m ≠ p2 ∧ m ≠ q2 ∧ m ≠ b2 ∧ m ≠ x
  a2 : p ≠ p2 ∧ p ≠ q2 ∧ p ≠ b2 ∧ q ≠ p2 ∧ q ≠ q2 ∧ q ≠ b2 ∧ b ≠ p2 ∧ b ≠ q2 ∧ b ≠ b2
  a3 : x ≠ p ∧ x ≠ q ∧ x ≠ b ∧ x ≠ p2 ∧ x ≠ q2 ∧ x ≠ b2
/-- A step in its box. -/
structure BXq (w : World) (y : Nat) (op : Opn) : Prop where
  c : ∀ (j : Nat) (v : Value), op.vals[j]? = some v → w.cell? ⟨y, j, none⟩ = some v
  f : ∀ j, w.frozen? ⟨y, j, none⟩ = false
theorem BXq.lt {w : World} {y : Nat} {op : Opn} (h : BXq w y op) : y < w.heap.size := World.block_lt_of_cell? _ _ (h.c 0 _ rfl)
theorem BXq.keep {w w' : World} {y : Nat} {op : Opn} (h : BXq w y op) {b lo n : Nat} (k : Fr b lo n w w') (hb : y ≠ b) : BXq w' y op := ⟨fun j v hv => k.ex.cell hb (h.c j v hv), fun j => (k.ex.frozen hb h.lt).trans (h.f j)⟩
theorem BXq.below {w w' : World} {y : Nat} {op : Opn} (h : BXq w y op) (k : Below w.heap.size w w') : BXq w' y op := ⟨fun j v hv => cellKeep k (h.c j v hv), fun j => (World.frozen?_of_block (k.block y h.lt)).trans (h.f j)⟩
theorem new_bxq (w : World) (op : Opn) : BXq (w.alloc (.cells #[.int .i64 op.kd, .int .i64 op.a, .int .i64 op.b, .int .i64 op.c, .int .i64 op.d, .int .i64 op.e, .int .i64 op.on] 37)) w.heap.size op := ⟨fun j v hv => by have := new_cells w op.vals 37 j v hv; rw [Addr.add_mid, Nat.zero_add] at this; exact this, fun j => by simp [go_sem]⟩
theorem BXq.cc {w : World} {y : Nat} {op : Opn} (h : BXq w y op) : w.cell? ⟨y, 0, none⟩ = some (.int .i64 op.kd) ∧ w.cell? ⟨y, 1, none⟩ = some (.int .i64 op.a) ∧ w.cell? ⟨y, 2, none⟩ = some (.int .i64 op.b) ∧ w.cell? ⟨y, 3, none⟩ = some (.int .i64 op.c) ∧ w.cell? ⟨y, 4, none⟩ = some (.int .i64 op.d) ∧ w.cell? ⟨y, 5, none⟩ = some (.int .i64 op.e) ∧ w.cell? ⟨y, 6, none⟩ = some (.int .i64 op.on) := ⟨h.c 0 _ rfl, h.c 1 _ rfl, h.c 2 _ rfl, h.c 3 _ rfl, h.c 4 _ rfl, h.c 5 _ rfl, h.c 6 _ rfl⟩
theorem BXq.a {w : World} {y : Nat} {op : Opn} (h : BXq w y op) (u : Int) : BXq (w.setCell ⟨y, 1, none⟩ (.int .i64 u)) y { op with a := u } ∧ Fr y 0 7 w (w.setCell ⟨y, 1, none⟩ (.int .i64 u)) := by
  refine ⟨⟨fun j v hv => ?_, fun j => by rw [set_frozen]; exact h.f j⟩, (Fr.refl _ _ _ _).set (by omega) (by omega) _⟩
  by_cases e : j = 1
  · subst e; cases hv; exact World.cell?_setCell_same _ _ _ (h.c 1 _ rfl)
  · rw [World.cell?_setCell_other _ _ _ _ (by simp <;> omega)]
    refine h.c j v ?_
    rw [← hv]
    rcases j with _ | _ | _ | _ | _ | _ | _ | j
    · rfl
    · exact absurd rfl e
    all_goals rfl
theorem BXq.b {w : World} {y : Nat} {op : Opn} (h : BXq w y op) (u : Int) : BXq (w.setCell ⟨y, 2, none⟩ (.int .i64 u)) y { op with b := u } ∧ Fr y 0 7 w (w.setCell ⟨y, 2, none⟩ (.int .i64 u)) := by
  refine ⟨⟨fun j v hv => ?_, fun j => by rw [set_frozen]; exact h.f j⟩, (Fr.refl _ _ _ _).set (by omega) (by omega) _⟩
  by_cases e : j = 2
  · subst e; cases hv; exact World.cell?_setCell_same _ _ _ (h.c 2 _ rfl)
  · rw [World.cell?_setCell_other _ _ _ _ (by simp <;> omega)]
    refine h.c j v ?_
    rw [← hv]
    rcases j with _ | _ | _ | _ | _ | _ | _ | j
    · rfl
    · rfl
    · exact absurd rfl e
    all_goals rfl
theorem new_nm (w : World) : BA (w.alloc (.cells #[.int .i64 0, .int .i64 0, .int .i64 0, .int .i64 0, .int .i64 0, .int .i64 0, .int .i64 0, .int .i64 0, .int .i64 0, .int .i64 0, .int .i64 0, .int .i64 0, .int .i64 0, .int .i64 0, .int .i64 0, .int .i64 0, .int .i64 0, .int .i64 0, .int .i64 0, .int .i64 0, .int .i64 0, .int .i64 0, .int .i64 0, .int .i64 0, .int .i64 0, .int .i64 0, .int .i64 0, .int .i64 0, .int .i64 0, .int .i64 0, .int .i64 0, .int .i64 0, .int .i64 0, .int .i64 0, .int .i64 0, .int .i64 0, .int .i64 0, .int .i64 0, .int .i64 0, .int .i64 0, .int .i64 0, .int .i64 0, .int .i64 0, .int .i64 0, .int .i64 0, .int .i64 0, .int .i64 0, .int .i64 0, .int .i64 0, .int .i64 0, .int .i64 0, .int .i64 0, .int .i64 0, .int .i64 0, .int .i64 0, .int .i64 0, .int .i64 0, .int .i64 0, .int .i64 0, .int .i64 0, .int .i64 0, .int .i64 0, .int .i64 0, .int .i64 0, .int .i64 0, .int .i64 0, .int .i64 0, .int .i64 0, .int .i64 0, .int .i64 0, .int .i64 0, .int .i64 0, .int .i64 0, .int .i64 0, .int .i64 0, .int .i64 0, .int .i64 0, .int .i64 0, .int .i64 0, .int .i64 0, .int .i64 0, .int .i64 0, .int .i64 0, .int .i64 0, .int .i64 0, .int .i64 0, .int .i64 0, .int .i64 0, .int .i64 0, .int .i64 0, .int .i64 0, .int .i64 0, .int .i64 0, .int .i64 0, .int .i64 0, .int .i64 0, .int .i64 0, .int .i64 0, .int .i64 0, .int .i64 0, .int .i64 0, .int .i64 0, .int .i64 0, .int .i64 0, .int .i64 0, .int .i64 0, .int .i64 0, .int .i64 0, .int .i64 0, .int .i64 0, .int .i64 0, .int .i64 0] 66)) w.heap.size (fun _ => 0) := by
  refine ⟨fun i hi => ?_, fun j => by simp [go_sem]⟩
  have := new_cells w (List.replicate 112 (.int .i64 0)) 66 i (.int .i64 0) (by rw [List.getElem?_replicate, if_pos hi])
  rw [Addr.add_mid, Nat.zero_add] at this
  exact this
theorem BA.frs {w : World} {x : Nat} {f : Nat → Int} (h : BA w x f) {i : Nat} (hi : i < 112) (u : Int) : BA (w.setCell ⟨x, i, none⟩ (.int .i64 u)) x (upd f i u) ∧ Fr x 0 112 w (w.setCell ⟨x, i, none⟩ (.int .i64 u)) := ⟨h.set hi u, (Fr.refl _ _ _ _).set (by omega) (by omega) _⟩

set_option linter.unusedSimpArgs false in
set_option maxRecDepth 100000 in
set_option maxHeartbeats 16000000 in
theorem numbersOpaque_walk (w : World) (a : Option Addr) (n cap : Nat) (f : Nat → Opn) (hn : n ≤ 9223372036854775807) (ho : OpsAt w a n f) :
    Calls Try.prog 6 #[.slice a n cap] w fun e w' => e = .returned (.bool true) ∧ Below w.heap.size w w' := by
  have HO := hide ho
  clear ho
  by_cases hsm : n ≤ 65536
  · go_enter Try.func6, Try.ntmps6
    go_wp2_with fail
    refine (small_any _ a n cap hn).mono ?_
    rintro e w' ⟨rfl, ew⟩
    rw [ew]
    have hd : decide (n ≤ 65536) = true := by simpa using hsm
    rw [hd]
    clear hd ew w'
    go_upto_region 4 with fail
    have HNA := hide (show BA (w.alloc (.cells Try.zeroCells66 66)) w.heap.size (fun _ => 0) from new_nm w)
    have HWB := hide (be1 w (.cells Try.zeroCells66 66))
    generalize w.alloc (.cells Try.zeroCells66 66) = w1 at *
    obtain ⟨x, hx⟩ : ∃ x, w.heap.size = x := ⟨_, rfl⟩
    have hxg : w.heap.size ≤ x := by omega
    rw [hx] at HNA ⊢
    clear hx
    go_wp2
    go_loopw [4] (fun s4 wr => ∃ t : Nat, t ≤ 112 ∧ s4 = .int .i64 t ∧ BA wr x (fun i => if i < t then (i : Int) else 0) ∧ Below w.heap.size w wr) (fun s4 _ => 112 - (intOf s4).toNat)
    case atStart => exact ⟨0, by omega, rfl, HNA.out.congr (fun i _ => by rw [if_neg (by omega)]), HWB.out⟩
    case round =>
      clear HNA HWB
      obtain ⟨t, ht, rfl, hna, hwb⟩ := hrel
      have HNA := hide hna
      have HWB := hide hwb
      clear hna hwb
      by_cases ht112 : t < 112
      · have ht112i : (t : Int) < 112 := by omega
        have ht0 : decide ((t : Int) < 0) = false := by simp
        have c1 := HNA.out.c t ht112
        have f1 := HNA.out.f t
        have HS := hide (HNA.out.frs ht112 (t : Int))
        replace HWB := hide (bel_fr HWB.out HS.out.2 hxg)
        clear HNA
        go_wp2
        go_roundw
        case rel => exact ⟨t + 1, by omega, by simp, HS.out.1.congr (fun i hi => by
          by_cases e : i = t
          · subst e; rw [upd_same, if_pos (by omega)]
          · rw [upd_ne _ _ e]
            by_cases z : i < t
            · rw [if_pos z, if_pos (by omega)]
            · rw [if_neg z, if_neg (by omega)]), HWB.out⟩
        case measure => simp [intOf]; omega
      · obtain rfl : t = 112 := by omega
        rw [show ((112 : Nat) : Int) = 112 from rfl]
        replace HNA := hide (HNA.out.congr (g := fun i => (i : Int)) (fun i hi => by rw [if_pos hi]))
        go_upto_region 8 with fail
        go_wp2
        go_loopw [5, 6, 7] (fun s5 _ _ wr => ∃ (k : Nat) (f : Nat → Int), k ≤ n ∧ s5 = .int .i64 k ∧ BA wr x f ∧ Hid (PN f) ∧ Below w.heap.size w wr) (fun s5 _ _ _ => n - (intOf s5).toNat)
        case atStart => exact ⟨0, _, Nat.zero_le _, rfl, HNA.out, hide PN.id, HWB.out⟩
        case round =>
          clear HNA HWB
          obtain ⟨k, nm, hk, rfl, hna, HPN, hwb⟩ := hrel
          have HNA := hide hna
          have HWB := hide hwb
          clear hna hwb
          by_cases hlt : k < n
          · have hlti : (k : Int) < (n : Int) := by omega
            obtain ⟨sb, off, rfl, hok, c0, c1, c2, c3, c4, c5, c6⟩ := (HO.out.below HWB.out).at hlt
            obtain ⟨op, hop⟩ : ∃ op, f k = op := ⟨_, rfl⟩
            rw [hop] at hok c0 c1 c2 c3 c4 c5 c6
            have hA := hok.a
            have hB := hok.b
            clear hok hop c3 c4 c5 c6
            by_cases hkd : op.kd = 3
            · have hkb : (op.kd == 3) = true := by simp [hkd]
              clear hkd
              go_wp2_with fail
              refine (wrap_any _ op.a 112 (by omega) (by omega) hA.1 hA.2).mono ?_
              rintro e w2 ⟨rfl, rfl⟩
              obtain ⟨a1, ha1⟩ : ∃ z : Nat, op.a % 112 = z := ⟨(op.a % 112).toNat, by omega⟩
              rw [ha1]
              have ha2 : a1 < 112 := by omega
              clear ha1
              go_wp2_with fail
              refine (wrap_any _ op.b 112 (by omega) (by omega) hB.1 hB.2).mono ?_
              rintro e w2 ⟨rfl, rfl⟩
              obtain ⟨b1, hb1⟩ : ∃ z : Nat, op.b % 112 = z := ⟨(op.b % 112).toNat, by omega⟩
              rw [hb1]
              have hb2 : b1 < 112 := by omega
              clear hb1 c0 c1 c2 hA hB hkb
              have ha2i : (a1 : Int) < 112 := by omega
              have hb2i : (b1 : Int) < 112 := by omega
              have ha0 : decide ((a1 : Int) < 0) = false := by simp
              have hb0 : decide ((b1 : Int) < 0) = false := by simp
              go_upto_region 14 with fail
              have z1 := HNA.out.c a1 ha2
              have z2 := HNA.out.c b1 hb2
              have f1 := HNA.out.f
              refine wp_region_held_drew (S := fun w' => True) (by kernel_rfl) trivial (fun hHeld => ?_)
              refine wpAnyH_take (i := 0) (v := ?_) rfl (by kernel_rfl) (by kernel_rfl) (by kernel_rfl) (fun _ _ _ h => h) (Or.inl ⟨by rfl, ?_⟩) (by assumption) ?_
              rotate_left
              · (intro w hSw; (try dsimp only at hSw); go_simp; try (with_reducible rfl))
              try simp only [Act.put, List.getElem_toArray, List.getElem_cons_zero, List.getElem_cons_succ, List.setIfInBounds_toArray, List.set_cons_zero, List.set_cons_succ]
              refine wpAnyH_take (i := 1) (v := ?_) rfl (by kernel_rfl) (by kernel_rfl) (by kernel_rfl) (fun _ _ _ h => h) (Or.inl ⟨by rfl, ?_⟩) (by assumption) ?_
              rotate_left
              · (intro w hSw; (try dsimp only at hSw); go_simp; try (with_reducible rfl))
              try simp only [Act.put, List.getElem_toArray, List.getElem_cons_zero, List.getElem_cons_succ, List.setIfInBounds_toArray, List.set_cons_zero, List.set_cons_succ]
              refine wpAnyH_take (i := 2) (v := ?_) rfl (by kernel_rfl) (by kernel_rfl) (by kernel_rfl) (fun _ _ _ h => h) (Or.inl ⟨by rfl, ?_⟩) (by assumption) ?_
              rotate_left
              · (intro w hSw; (try dsimp only at hSw); go_simp; try (with_reducible rfl))
              try simp only [Act.put, List.getElem_toArray, List.getElem_cons_zero, List.getElem_cons_succ, List.setIfInBounds_toArray, List.set_cons_zero, List.set_cons_succ]
              refine wpAnyH_take (i := 3) (v := ?_) rfl (by kernel_rfl) (by kernel_rfl) (by kernel_rfl) (fun _ _ _ h => h) (Or.inl ⟨by rfl, ?_⟩) (by assumption) ?_
              rotate_left
              · (intro w hSw; (try dsimp only at hSw); go_simp; try (with_reducible rfl))
              try simp only [Act.put, List.getElem_toArray, List.getElem_cons_zero, List.getElem_cons_succ, List.setIfInBounds_toArray, List.set_cons_zero, List.set_cons_succ]
              refine wpAnyH_take (i := 5) (v := ?_) rfl (by kernel_rfl) (by kernel_rfl) (by kernel_rfl) (fun _ _ _ h => h) (Or.inl ⟨by rfl, ?_⟩) (by assumption) ?_
              rotate_left
              · (intro w hSw; (try dsimp only at hSw); go_simp; try (with_reducible rfl))
              try simp only [Act.put, List.getElem_toArray, List.getElem_cons_zero, List.getElem_cons_succ, List.setIfInBounds_toArray, List.set_cons_zero, List.set_cons_succ]
              refine wpAnyH_take (i := 6) (v := ?_) rfl (by kernel_rfl) (by kernel_rfl) (by kernel_rfl) (fun _ _ _ h => h) (Or.inl ⟨by rfl, ?_⟩) (by assumption) ?_
              rotate_left
              · (intro w hSw; (try dsimp only at hSw); go_simp; try (with_reducible rfl))
              try simp only [Act.put, List.getElem_toArray, List.getElem_cons_zero, List.getElem_cons_succ, List.setIfInBounds_toArray, List.set_cons_zero, List.set_cons_succ]
              refine wpAnyH_ready (rs := [4, 7]) (by kernel_rfl) (by simp) ?_
              refine (AllReadyH.cons rfl (fun K hK => ?_) (AllReadyH.cons rfl (fun K hK => ?_) AllReadyH.nil))
              · go_simp
                refine hK.out _ _ ?_ (fun hHeld => ?_)
                · trivial
                clear hK K
                try simp only [Act.put, List.getElem_toArray, List.getElem_cons_zero, List.getElem_cons_succ, List.setIfInBounds_toArray, List.set_cons_zero, List.set_cons_succ]
                refine wpAnyH_ready (rs := [7]) (by kernel_rfl) (by simp) ?_
                refine (AllReadyH.cons rfl (fun K hK => ?_) AllReadyH.nil)
                · go_simp
                  refine hK.out _ _ ?_ (fun hHeld => ?_)
                  · trivial
                  clear hK K
                  try simp only [Act.put, List.getElem_toArray, List.getElem_cons_zero, List.getElem_cons_succ, List.setIfInBounds_toArray, List.set_cons_zero, List.set_cons_succ]
                  refine wpAnyH_take (i := 8) (v := ?_) rfl (by kernel_rfl) (by kernel_rfl) (by kernel_rfl) (fun _ _ _ h => h) (Or.inl ⟨by rfl, ?_⟩) (by assumption) ?_
                  rotate_left
                  · (intro w hSw; (try dsimp only at hSw); go_simp; try (with_reducible rfl))
                  try simp only [Act.put, List.getElem_toArray, List.getElem_cons_zero, List.getElem_cons_succ, List.setIfInBounds_toArray, List.set_cons_zero, List.set_cons_succ]
                  refine wpAnyH_ready (rs := [9]) (by kernel_rfl) (by simp) ?_
                  refine (AllReadyH.cons rfl (fun K hK => ?_) AllReadyH.nil)
                  · go_simp
                    have HNA1 := hide ((HNA.out.frs ha2 (nm b1)).1.drew)
                    have HW1 := hide (bel_fr HWB.out (HNA.out.frs ha2 (nm b1)).2.drew hxg)
                    clear z1 z2 f1
                    generalize (World.setCell _ ⟨x, a1, none⟩ (.int .i64 (nm b1))).drew = w3 at *
                    have z1 := HNA1.out.c b1 hb2
                    have f1 := HNA1.out.f
                    refine hK.out _ _ ?_ (fun hHeld => ?_)
                    · trivial
                    clear hK K
                    try simp only [Act.put, List.getElem_toArray, List.getElem_cons_zero, List.getElem_cons_succ, List.setIfInBounds_toArray, List.set_cons_zero, List.set_cons_succ]
                    refine wpAnyH_take (i := 10) (v := ?_) rfl (by kernel_rfl) (by kernel_rfl) (by kernel_rfl) (fun _ _ _ h => h) (Or.inl ⟨by rfl, ?_⟩) (by assumption) ?_
                    rotate_left
                    · (intro w hSw; (try dsimp only at hSw); go_simp; try (with_reducible rfl))
                    try simp only [Act.put, List.getElem_toArray, List.getElem_cons_zero, List.getElem_cons_succ, List.setIfInBounds_toArray, List.set_cons_zero, List.set_cons_succ]
                    refine wpAnyH_ready (rs := [11]) (by kernel_rfl) (by simp) ?_
                    refine (AllReadyH.cons rfl (fun K hK => ?_) AllReadyH.nil)
                    · go_simp
                      have HNA2 := hide ((HNA1.out.frs hb2 (nm a1)).1)
                      have HW2 := hide (bel_fr HW1.out (HNA1.out.frs hb2 (nm a1)).2 hxg)
                      clear z1 f1
                      generalize World.setCell _ ⟨x, b1, none⟩ (.int .i64 (nm a1)) = w4 at *
                      refine hK.out _ _ ?_ (fun hHeld => ?_)
                      · trivial
                      clear hK K
                      try simp only [Act.put, List.getElem_toArray, List.getElem_cons_zero, List.getElem_cons_succ, List.setIfInBounds_toArray, List.set_cons_zero, List.set_cons_succ]
                      refine wpAnyH_done (by kernel_rfl) ?_ _
                      go_wp2
                      go_roundw
                      case rel => exact ⟨k + 1, _, by omega, by simp, HNA2.out, hide (HPN.out.swap ha2 hb2), HW2.out⟩
                      case measure => simp [intOf]; omega
              · go_simp
                refine hK.out _ _ ?_ (fun hHeld => ?_)
                · trivial
                clear hK K
                try simp only [Act.put, List.getElem_toArray, List.getElem_cons_zero, List.getElem_cons_succ, List.setIfInBounds_toArray, List.set_cons_zero, List.set_cons_succ]
                refine wpAnyH_ready (rs := [4]) (by kernel_rfl) (by simp) ?_
                refine (AllReadyH.cons rfl (fun K hK => ?_) AllReadyH.nil)
                · go_simp
                  refine hK.out _ _ ?_ (fun hHeld => ?_)
                  · trivial
                  clear hK K
                  try simp only [Act.put, List.getElem_toArray, List.getElem_cons_zero, List.getElem_cons_succ, List.setIfInBounds_toArray, List.set_cons_zero, List.set_cons_succ]
                  refine wpAnyH_take (i := 8) (v := ?_) rfl (by kernel_rfl) (by kernel_rfl) (by kernel_rfl) (fun _ _ _ h => h) (Or.inl ⟨by rfl, ?_⟩) (by assumption) ?_
                  rotate_left
                  · (intro w hSw; (try dsimp only at hSw); go_simp; try (with_reducible rfl))
                  try simp only [Act.put, List.getElem_toArray, List.getElem_cons_zero, List.getElem_cons_succ, List.setIfInBounds_toArray, List.set_cons_zero, List.set_cons_succ]
                  refine wpAnyH_ready (rs := [9]) (by kernel_rfl) (by simp) ?_
                  refine (AllReadyH.cons rfl (fun K hK => ?_) AllReadyH.nil)
                  · go_simp
                    have HNA1 := hide ((HNA.out.frs ha2 (nm b1)).1.drew)
                    have HW1 := hide (bel_fr HWB.out (HNA.out.frs ha2 (nm b1)).2.drew hxg)
                    clear z1 z2 f1
                    generalize (World.setCell _ ⟨x, a1, none⟩ (.int .i64 (nm b1))).drew = w3 at *
                    have z1 := HNA1.out.c b1 hb2
                    have f1 := HNA1.out.f
                    refine hK.out _ _ ?_ (fun hHeld => ?_)
                    · trivial
                    clear hK K
                    try simp only [Act.put, List.getElem_toArray, List.getElem_cons_zero, List.getElem_cons_succ, List.setIfInBounds_toArray, List.set_cons_zero, List.set_cons_succ]
                    refine wpAnyH_take (i := 10) (v := ?_) rfl (by kernel_rfl) (by kernel_rfl) (by kernel_rfl) (fun _ _ _ h => h) (Or.inl ⟨by rfl, ?_⟩) (by assumption) ?_
                    rotate_left
                    · (intro w hSw; (try dsimp only at hSw); go_simp; try (with_reducible rfl))
                    try simp only [Act.put, List.getElem_toArray, List.getElem_cons_zero, List.getElem_cons_succ, List.setIfInBounds_toArray, List.set_cons_zero, List.set_cons_succ]
                    refine wpAnyH_ready (rs := [11]) (by kernel_rfl) (by simp) ?_
                    refine (AllReadyH.cons rfl (fun K hK => ?_) AllReadyH.nil)
                    · go_simp
                      have HNA2 := hide ((HNA1.out.frs hb2 (nm a1)).1)
                      have HW2 := hide (bel_fr HW1.out (HNA1.out.frs hb2 (nm a1)).2 hxg)
                      clear z1 f1
                      generalize World.setCell _ ⟨x, b1, none⟩ (.int .i64 (nm a1)) = w4 at *
                      refine hK.out _ _ ?_ (fun hHeld => ?_)
                      · trivial
                      clear hK K
                      try simp only [Act.put, List.getElem_toArray, List.getElem_cons_zero, List.getElem_cons_succ, List.setIfInBounds_toArray, List.set_cons_zero, List.set_cons_succ]
                      refine wpAnyH_done (by kernel_rfl) ?_ _
                      go_wp2
                      go_roundw
                      case rel => exact ⟨k + 1, _, by omega, by simp, HNA2.out, hide (HPN.out.swap ha2 hb2), HW2.out⟩
                      case measure => simp [intOf]; omega
            · have hkb : (op.kd == 3) = false := by simp [hkd]
              clear hkd
              go_wp2
              go_roundw
              case rel => exact ⟨k + 1, nm, by omega, by simp, HNA.out, HPN, HWB.out⟩
              case measure => simp [intOf]; omega
          · have hlti : ¬ (k : Int) < (n : Int) := by omega
            clear hlt
            go_upto_region 15 with fail
            generalize hwz : wr = wz at *
            clear hwz
            have hxz : x < wz.heap.size := HNA.out.lt
            go_wp2_with fail
            refine (newT_any _).mono ?_
            rintro e wn1 ⟨rfl, h1, b1⟩
            obtain ⟨m, hm⟩ : ∃ x, wz.heap.size = x := ⟨_, rfl⟩
            rw [hm] at h1 ⊢
            have hgem : wz.heap.size ≤ m := by omega
            replace HNA := hide (HNA.out.below b1)
            have hltm : m < wn1.heap.size := h1.lt
            have hsz1 := b1.size
            have Kt := hide h1
            have KB := hide b1
            clear h1 b1 hm
            go_wp2_with fail
            refine (newW_any _).mono ?_
            rintro e wn2 ⟨rfl, h1, b1⟩
            obtain ⟨p, hp⟩ : ∃ x, wn1.heap.size = x := ⟨_, rfl⟩
            rw [hp] at h1 ⊢
            have hgep : wn1.heap.size ≤ p := by omega
            replace HNA := hide (HNA.out.below b1)
            have hltp : p < wn2.heap.size := h1.lt
            have hsz2 := b1.size
            replace Kt := hide (Kt.out.below b1)
            have Kw := hide h1
            replace KB := hide (lec KB.out b1)
            clear h1 b1 hp
            go_wp2_with fail
            refine (newW_any _).mono ?_
            rintro e wn3 ⟨rfl, h1, b1⟩
            obtain ⟨p2, hp2⟩ : ∃ x, wn2.heap.size = x := ⟨_, rfl⟩
            rw [hp2] at h1 ⊢
            have hgep2 : wn2.heap.size ≤ p2 := by omega
            replace HNA := hide (HNA.out.below b1)
            have hltp2 : p2 < wn3.heap.size := h1.lt
            have hsz3 := b1.size
            replace Kt := hide (Kt.out.below b1)
            replace Kw := hide (Kw.out.below b1)
            have Kv := hide h1
            replace KB := hide (lec KB.out b1)
            clear h1 b1 hp2
            go_wp2_with fail
            refine (newP_any _).mono ?_
            rintro e wn4 ⟨rfl, h1, b1⟩
            obtain ⟨q, hq⟩ : ∃ x, wn3.heap.size = x := ⟨_, rfl⟩
            rw [hq] at h1 ⊢
            have hgeq : wn3.heap.size ≤ q := by omega
            replace HNA := hide (HNA.out.below b1)
            have hltq : q < wn4.heap.size := h1.lt
            have hsz4 := b1.size
            replace Kt := hide (Kt.out.below b1)
            replace Kw := hide (Kw.out.below b1)
            replace Kv := hide (Kv.out.below b1)
            have Kp := hide h1
            replace KB := hide (lec KB.out b1)
            clear h1 b1 hq
            go_wp2_with fail
            refine (newP_any _).mono ?_
            rintro e wn5 ⟨rfl, h1, b1⟩
            obtain ⟨q2, hq2⟩ : ∃ x, wn4.heap.size = x := ⟨_, rfl⟩
            rw [hq2] at h1 ⊢
            have hgeq2 : wn4.heap.size ≤ q2 := by omega
            replace HNA := hide (HNA.out.below b1)
            have hltq2 : q2 < wn5.heap.size := h1.lt
            have hsz5 := b1.size
            replace Kt := hide (Kt.out.below b1)
            replace Kw := hide (Kw.out.below b1)
            replace Kv := hide (Kv.out.below b1)
            replace Kp := hide (Kp.out.below b1)
            have Kq := hide h1
            replace KB := hide (lec KB.out b1)
            clear h1 b1 hq2
            go_wp2_with fail
            refine (newB_any _ m).mono ?_
            rintro e wn6 ⟨b, rfl, hbg, h1, b1⟩
            have hgeb : wn5.heap.size ≤ b := hbg
            replace HNA := hide (HNA.out.below b1)
            have hltb : b < wn6.heap.size := h1.lt
            have hsz6 := b1.size
            replace Kt := hide (Kt.out.below b1)
            replace Kw := hide (Kw.out.below b1)
            replace Kv := hide (Kv.out.below b1)
            replace Kp := hide (Kp.out.below b1)
            replace Kq := hide (Kq.out.below b1)
            have Kb := hide h1
            replace KB := hide (lec KB.out b1)
            clear h1 b1 hbg
            go_wp2_with fail
            refine (newB_any _ m).mono ?_
            rintro e wn7 ⟨b2, rfl, hbg, h1, b1⟩
            have hgeb2 : wn6.heap.size ≤ b2 := hbg
            replace HNA := hide (HNA.out.below b1)
            have hltb2 : b2 < wn7.heap.size := h1.lt
            have hsz7 := b1.size
            replace Kt := hide (Kt.out.below b1)
            replace Kw := hide (Kw.out.below b1)
            replace Kv := hide (Kv.out.below b1)
            replace Kp := hide (Kp.out.below b1)
            replace Kq := hide (Kq.out.below b1)
            replace Kb := hide (Kb.out.below b1)
            have Kc := hide h1
            replace KB := hide (lec KB.out b1)
            clear h1 b1 hbg
            have HL := hide (show LS wz wn7 m p q b (fun _ => tgt0) (fun _ => 0) (fun _ => tbl0) 1 from ⟨Kt.out, Kw.out, Kp.out, Kb.out, ⟨fun _ _ => tbl0_ok, fun _ _ => Int.le_refl 1⟩, fun _ _ => tgt0_ok, fun _ => ⟨Int.le_refl 0, by show (0 : Int) ≤ 3; omega⟩, KB.out, by omega, by omega⟩)
            have HM := hide (show LS wz wn7 m p2 q2 b2 (fun _ => tgt0) (fun _ => 0) (fun _ => tbl0) 1 from ⟨Kt.out, Kv.out, Kq.out, Kc.out, ⟨fun _ _ => tbl0_ok, fun _ _ => Int.le_refl 1⟩, fun _ _ => tgt0_ok, fun _ => ⟨Int.le_refl 0, by show (0 : Int) ≤ 3; omega⟩, KB.out, by omega, by omega⟩)
            clear Kt Kw Kv Kp Kq Kb Kc KB
            have HAP := hide (show ApO m p q b p2 q2 b2 x from ⟨by omega, by omega, by omega⟩)
            clear hgem hgep hgep2 hgeq hgeq2 hgeb hgeb2 hltm hltp hltp2 hltq hltq2 hltb hltb2 hsz1 hsz2 hsz3 hsz4 hsz5 hsz6 hsz7
            go_upto_region 22 with fail
            go_wp2
            go_loopw [15, 16, 17, 18] (fun s15 _ _ _ wr => ∃ (k : Nat) (W W2 : Nat → Tgt) (G G2 : Nat → Int) (TT T2 : Nat → Tbl), k ≤ n ∧ s15 = .int .i64 k ∧ LS wz wr m p q b W G TT (1 + 112 * (k : Int)) ∧ LS wz wr m p2 q2 b2 W2 G2 T2 (1 + 112 * (k : Int)) ∧ BA wr x nm ∧ Hid (WRel nm W W2) ∧ Hid (GRel nm G G2) ∧ Hid (BRel nm TT T2)) (fun s15 _ _ _ _ => n - (intOf s15).toNat)
            case atStart => exact ⟨0, _, _, _, _, _, _, Nat.zero_le _, rfl, HL.out, HM.out, HNA.out, hide fun _ _ => rfl, hide fun _ _ _ _ _ _ => rfl, hide (BRel.first nm)⟩
            case round =>
              clear HL HM HNA
              obtain ⟨k, W, W2, G, G2, TT, T2, hk, rfl, hl, hm, hna, HWR, HGR, HBR⟩ := hrel
              have HL := hide hl
              have HM := hide hm
              have HNA := hide hna
              clear hl hm hna
              by_cases hlt : k < n
              · have hlti : (k : Int) < (n : Int) := by omega
                obtain ⟨sb, off, rfl, hok, c0, c1, c2, c3, c4, c5, c6⟩ := (HO.out.below (lec HWB.out HL.out.bel)).at hlt
                obtain ⟨op, hop⟩ : ∃ op, f k = op := ⟨_, rfl⟩
                rw [hop] at hok c0 c1 c2 c3 c4 c5 c6
                have HOK := hide hok
                have hA := hok.a
                have hB := hok.b
                clear hok hop
                go_upto_region 26 with fail
                have HBX := hide (new_bxq wr op)
                have HYN := hide (show wr.heap.size ≠ p ∧ wr.heap.size ≠ q ∧ wr.heap.size ≠ b ∧ wr.heap.size ≠ p2 ∧ wr.heap.size ≠ q2 ∧ wr.heap.size ≠ b2 ∧ wr.heap.size ≠ x from ⟨by have := HL.out.wr.lt; omega, by have := HL.out.pa.lt; omega, by have := HL.out.bd.lt; omega, by have := HM.out.wr.lt; omega, by have := HM.out.pa.lt; omega, by have := HM.out.bd.lt; omega, by have := HNA.out.lt; omega⟩)
                have HMN := hide (show wr.heap.size ≠ m by have := HL.out.mt.lt; omega)
                replace HL := hide (HL.out.below (be1 wr (.cells #[.int .i64 op.kd, .int .i64 op.a, .int .i64 op.b, .int .i64 op.c, .int .i64 op.d, .int .i64 op.e, .int .i64 op.on] 37)))
                replace HM := hide (HM.out.below (be1 wr (.cells #[.int .i64 op.kd, .int .i64 op.a, .int .i64 op.b, .int .i64 op.c, .int .i64 op.d, .int .i64 op.e, .int .i64 op.on] 37)))
                replace HNA := hide (HNA.out.below (be1 wr (.cells #[.int .i64 op.kd, .int .i64 op.a, .int .i64 op.b, .int .i64 op.c, .int .i64 op.d, .int .i64 op.e, .int .i64 op.on] 37)))
                generalize wr.alloc (.cells #[.int .i64 op.kd, .int .i64 op.a, .int .i64 op.b, .int .i64 op.c, .int .i64 op.d, .int .i64 op.e, .int .i64 op.on] 37) = w2 at *
                generalize wr.heap.size = y at *
                clear c0 c1 c2 c3 c4 c5 c6
                obtain ⟨x0, x1, x2, x3, x4, x5, x6⟩ := HBX.out.cc
                go_upto_region 27 with fail
                have HBY := hide (new_bxq w2 op)
                have HZN := hide (show w2.heap.size ≠ p ∧ w2.heap.size ≠ q ∧ w2.heap.size ≠ b ∧ w2.heap.size ≠ p2 ∧ w2.heap.size ≠ q2 ∧ w2.heap.size ≠ b2 ∧ w2.heap.size ≠ x from ⟨by have := HL.out.wr.lt; omega, by have := HL.out.pa.lt; omega, by have := HL.out.bd.lt; omega, by have := HM.out.wr.lt; omega, by have := HM.out.pa.lt; omega, by have := HM.out.bd.lt; omega, by have := HNA.out.lt; omega⟩)
                have HZM := hide (show w2.heap.size ≠ m ∧ w2.heap.size ≠ y ∧ wz.heap.size ≤ w2.heap.size from ⟨by have := HL.out.mt.lt; omega, by have := HBX.out.lt; omega, HL.out.bel.size⟩)
                replace HL := hide (HL.out.below (be1 w2 (.cells #[.int .i64 op.kd, .int .i64 op.a, .int .i64 op.b, .int .i64 op.c, .int .i64 op.d, .int .i64 op.e, .int .i64 op.on] 37)))
                replace HM := hide (HM.out.below (be1 w2 (.cells #[.int .i64 op.kd, .int .i64 op.a, .int .i64 op.b, .int .i64 op.c, .int .i64 op.d, .int .i64 op.e, .int .i64 op.on] 37)))
                replace HNA := hide (HNA.out.below (be1 w2 (.cells #[.int .i64 op.kd, .int .i64 op.a, .int .i64 op.b, .int .i64 op.c, .int .i64 op.d, .int .i64 op.e, .int .i64 op.on] 37)))
                replace HBX := hide (HBX.out.below (be1 w2 (.cells #[.int .i64 op.kd, .int .i64 op.a, .int .i64 op.b, .int .i64 op.c, .int .i64 op.d, .int .i64 op.e, .int .i64 op.on] 37)))
                generalize w2.alloc (.cells #[.int .i64 op.kd, .int .i64 op.a, .int .i64 op.b, .int .i64 op.c, .int .i64 op.d, .int .i64 op.e, .int .i64 op.on] 37) = w3 at *
                generalize w2.heap.size = z at *
                clear x0 x1 x2 x3 x4 x5 x6
                obtain ⟨x0, x1, x2, x3, x4, x5, x6⟩ := HBX.out.cc
                by_cases hkd : op.kd = 0
                · have hkb : (op.kd == 0) = true := by simp [hkd]
                  have hkc : (op.kd == 1) = false := by simp [hkd]
                  have HRE := hide (show rnO nm op = { op with a := nm (op.a % 112).toNat } by unfold rnO; rw [if_pos hkd])
                  clear hkd
                  go_wp2_with fail
                  refine (wrap_any _ op.a 112 (by omega) (by omega) hA.1 hA.2).mono ?_
                  rintro e w4 ⟨rfl, rfl⟩
                  obtain ⟨a1, ha1⟩ : ∃ z : Nat, op.a % 112 = z := ⟨(op.a % 112).toNat, by omega⟩
                  rw [ha1, Int.toNat_natCast] at HRE
                  rw [ha1]
                  have ha2 : a1 < 112 := by omega
                  have ha2i : (a1 : Int) < 112 := by omega
                  have ha0 : decide ((a1 : Int) < 0) = false := by simp
                  clear ha1
                  have cn := HNA.out.c a1 ha2
                  have z1 := HBY.out.cc.2.1
                  have fz := HBY.out.f
                  have HS := hide (HBY.out.a (nm a1))
                  replace HL := hide (HL.out.other HS.out.2 (Ne.symm HZM.out.1) (Ne.symm HZN.out.1) (Ne.symm HZN.out.2.1) (Ne.symm HZN.out.2.2.1) HZM.out.2.2)
                  replace HM := hide (HM.out.other HS.out.2 (Ne.symm HZM.out.1) (Ne.symm HZN.out.2.2.2.1) (Ne.symm HZN.out.2.2.2.2.1) (Ne.symm HZN.out.2.2.2.2.2.1) HZM.out.2.2)
                  replace HNA := hide (HNA.out.keep HS.out.2 (Ne.symm HZN.out.2.2.2.2.2.2))
                  replace HBX := hide (HBX.out.keep HS.out.2 (Ne.symm HZM.out.2.1))
                  clear HBY
                  go_upto_region 29 with fail
                  generalize World.setCell _ ⟨z, 1, none⟩ (.int .i64 (nm a1)) = w5 at *
                  have HBY := hide (show BXq w5 z (rnO nm op) by rw [HRE.out]; exact HS.out.1)
                  clear HS cn z1 fz HRE x0 x1 x2 x3 x4 x5 x6
                  obtain ⟨x0, x1, x2, x3, x4, x5, x6⟩ := HBX.out.cc
                  go_upto_region 31 with fail
                  obtain ⟨x0, x1, x2, x3, x4, x5, x6⟩ := HBX.out.cc
                  go_wp2_with fail
                  refine (stepW_any _ p W HL.out.wr op HOK.out).mono ?_
                  rintro e w3 ⟨rfl, h1, h2⟩
                  clear x0 x1 x2 x3 x4 x5 x6
                  replace HM := hide (HM.out.other h2 HAP.out.a1.1 (Ne.symm HAP.out.a2.1) (Ne.symm HAP.out.a2.2.1) (Ne.symm HAP.out.a2.2.2.1) HL.out.ge.1)
                  replace HL := hide (HL.out.world h2 h1 (wst_ok op HL.out.wo))
                  replace HNA := hide (HNA.out.keep h2 HAP.out.a3.1)
                  replace HBX := hide (HBX.out.keep h2 HYN.out.1)
                  replace HBY := hide (HBY.out.keep h2 HZN.out.1)
                  clear h1 h2
                  obtain ⟨x0, x1, x2, x3, x4, x5, x6⟩ := HBY.out.cc
                  go_wp2_with fail
                  refine (stepW_any _ p2 W2 HM.out.wr (rnO nm op) (rn_ok HPN.out HOK.out)).mono ?_
                  rintro e w4 ⟨rfl, h1, h2⟩
                  clear x0 x1 x2 x3 x4 x5 x6
                  replace HL := hide (HL.out.other h2 HAP.out.a1.2.2.2.1 HAP.out.a2.1 HAP.out.a2.2.2.2.1 HAP.out.a2.2.2.2.2.2.2.1 HM.out.ge.1)
                  replace HM := hide (HM.out.world h2 h1 (wst_ok (rnO nm op) HM.out.wo))
                  replace HNA := hide (HNA.out.keep h2 HAP.out.a3.2.2.2.1)
                  replace HBX := hide (HBX.out.keep h2 HYN.out.2.2.2.1)
                  replace HBY := hide (HBY.out.keep h2 HZN.out.2.2.2.1)
                  clear h1 h2
                  replace HWR := hide (WRel.step HPN.out HWR.out op)
                  by_cases hkd2 : op.kd = 2
                  · have hkb2 : (op.kd == 2) = true := by simp [hkd2]
                    clear hkd2
                    obtain ⟨x0, x1, x2, x3, x4, x5, x6⟩ := HBX.out.cc
                    go_wp2_with fail
                    refine (list_any _ q G HL.out.pa).mono ?_
                    rintro e w5 ⟨da, dc, rfl, hdr, hb⟩
                    clear x0 x1 x2 x3 x4 x5 x6
                    have HDG := hide (show ∀ g off, da = some ⟨g, off, none⟩ → g < w5.heap.size ∧ g ≠ b from fun g off e => ⟨(hdr.da.2 g off e).2, by have := (hdr.da.2 g off e).1; have := HL.out.bd.lt; omega⟩)
                    replace HL := hide (HL.out.below hb)
                    replace HM := hide (HM.out.below hb)
                    replace HNA := hide (HNA.out.below hb)
                    replace HBX := hide (HBX.out.below hb)
                    replace HBY := hide (HBY.out.below hb)
                    have HDA := hide hdr.da.1
                    have hdl : (lsN G 1792).length ≤ 1792 := lsN_len G 1792
                    clear hdr hb
                    go_wp2_with fail
                    refine (tick_any _ b m p dX dY _ da _ dc (lsN G 1792) TT (1 + 112 * (k : Int)) HL.out.bd HL.out.ti (by omega) HL.out.mt HL.out.ne.2.2.1 HDA.out rfl (by omega) HDG.out HL.out.wr.wa HL.out.ne.2.2.2.2.1 HL.out.wo).mono ?_
                    rintro e w6 ⟨T1n, rfl, hbd, hti, htr, hfr⟩
                    have HT1 := hide htr
                    have HTI := hide HL.out.ti
                    replace HM := hide (HM.out.other hfr HAP.out.a1.2.2.1 (Ne.symm HAP.out.a2.2.2.2.2.2.2.1) (Ne.symm HAP.out.a2.2.2.2.2.2.2.2.1) (Ne.symm HAP.out.a2.2.2.2.2.2.2.2.2) HL.out.ge.2.2)
                    replace HL := hide (HL.out.board hfr hbd hti)
                    replace HNA := hide (HNA.out.keep hfr HAP.out.a3.2.2.1)
                    replace HBX := hide (HBX.out.keep hfr HYN.out.2.2.1)
                    replace HBY := hide (HBY.out.keep hfr HZN.out.2.2.1)
                    clear hbd hti htr hfr HDA HDG
                    go_wp2_with fail
                    refine (list_any _ q2 G2 HM.out.pa).mono ?_
                    rintro e w7 ⟨da, dc, rfl, hdr, hb⟩
                    have HDG := hide (show ∀ g off, da = some ⟨g, off, none⟩ → g < w7.heap.size ∧ g ≠ b2 from fun g off e => ⟨(hdr.da.2 g off e).2, by have := (hdr.da.2 g off e).1; have := HM.out.bd.lt; omega⟩)
                    replace HL := hide (HL.out.below hb)
                    replace HM := hide (HM.out.below hb)
                    replace HNA := hide (HNA.out.below hb)
                    replace HBX := hide (HBX.out.below hb)
                    replace HBY := hide (HBY.out.below hb)
                    have HDA := hide hdr.da.1
                    have hdl2 : (lsN G2 1792).length ≤ 1792 := lsN_len G2 1792
                    clear hdr hb
                    go_wp2_with fail
                    refine (tick_any _ b2 m p2 dX dY _ da _ dc (lsN G2 1792) T2 (1 + 112 * (k : Int)) HM.out.bd HM.out.ti (by omega) HM.out.mt HM.out.ne.2.2.1 HDA.out rfl (by omega) HDG.out HM.out.wr.wa HM.out.ne.2.2.2.2.1 HM.out.wo).mono ?_
                    rintro e w8 ⟨T2n, rfl, hbd, hti, htr, hfr⟩
                    have HT2 := hide htr
                    have HTJ := hide HM.out.ti
                    replace HL := hide (HL.out.other hfr HAP.out.a1.2.2.2.2.2.1 HAP.out.a2.2.2.1 HAP.out.a2.2.2.2.2.2.1 HAP.out.a2.2.2.2.2.2.2.2.2 HM.out.ge.2.2)
                    replace HM := hide (HM.out.board hfr hbd hti)
                    replace HNA := hide (HNA.out.keep hfr HAP.out.a3.2.2.2.2.2)
                    replace HBX := hide (HBX.out.keep hfr HYN.out.2.2.2.2.2.1)
                    replace HBY := hide (HBY.out.keep hfr HZN.out.2.2.2.2.2.1)
                    clear hbd hti htr hfr HDA HDG
                    replace HBR := hide (BRel.tick HPN.out (N := 1 + 112 * (k : Int)) (by omega) HBR.out HGR.out HWR.out HL.out.gk HM.out.gk HL.out.wo HM.out.wo HTI.out HTJ.out HT1.out HT2.out)
                    clear HT1 HT2 HTI HTJ hdl hdl2
                    have HTE := hide (show ∀ t, t < 4 → tabN (T1n t) 64 = tabN (T2n t) 64 from fun t ht => tab_rel (HL.out.ti.tk t ht).inv (HM.out.ti.tk t ht).inv (HBR.out t ht).1)
                    go_wp2
                    go_loopw [18] (fun s18 wx => ∃ t : Nat, t ≤ 4 ∧ s18 = .int .i64 t ∧ LS wz wx m p q b (wstP W op) G T1n (1 + 112 * (k : Int) + 112) ∧ LS wz wx m p2 q2 b2 (wstP W2 (rnO nm op)) G2 T2n (1 + 112 * (k : Int) + 112) ∧ BA wx x nm ∧ BXq wx y op ∧ BXq wx z (rnO nm op)) (fun s18 _ => 4 - (intOf s18).toNat)
                    case atStart => exact ⟨0, by omega, rfl, HL.out, HM.out, HNA.out, HBX.out, HBY.out⟩
                    case round =>
                      clear HL HM HNA HBX HBY
                      obtain ⟨t, ht, rfl, hl, hm, hna, hbx, hby⟩ := hrel
                      have HL := hide hl
                      have HM := hide hm
                      have HNA := hide hna
                      have HBX := hide hbx
                      have HBY := hide hby
                      clear hl hm hna hbx hby
                      by_cases ht4 : t < 4
                      · have ht4i : (t : Int) < 4 := by omega
                        go_wp2_with fail
                        refine (table_any _ b t ht4 (T1n t) (HL.out.bd.ta t ht4)).mono ?_
                        rintro e w12 ⟨ta, tc, rfl, hr8, hb8⟩
                        replace HL := hide (HL.out.below hb8)
                        replace HM := hide (HM.out.below hb8)
                        replace HNA := hide (HNA.out.below hb8)
                        replace HBX := hide (HBX.out.below hb8)
                        replace HBY := hide (HBY.out.below hb8)
                        have HR8 := hide hr8
                        clear hr8 hb8
                        go_wp2_with fail
                        refine (table_any _ b2 t ht4 (T2n t) (HM.out.bd.ta t ht4)).mono ?_
                        rintro e w13 ⟨tb, td, rfl, hr8, hb8⟩
                        replace HL := hide (HL.out.below hb8)
                        replace HM := hide (HM.out.below hb8)
                        replace HNA := hide (HNA.out.below hb8)
                        replace HBX := hide (HBX.out.below hb8)
                        replace HBY := hide (HBY.out.below hb8)
                        replace HR8 := hide (HR8.out.below hb8)
                        have HR9 := hide hr8
                        clear hr8 hb8
                        rw [← HTE.out t ht4] at HR9 ⊢
                        have hLl : (tabN (T1n t) 64).length ≤ 64 := tab_le 64
                        go_wp2_with fail
                        refine (same_any _ _ _ ta tb _ tc td (tabN (T1n t) 64) HR8.out HR9.out rfl hLl).mono ?_
                        rintro e w14 ⟨rfl, hb8⟩
                        replace HL := hide (HL.out.below hb8)
                        replace HM := hide (HM.out.below hb8)
                        replace HNA := hide (HNA.out.below hb8)
                        replace HBX := hide (HBX.out.below hb8)
                        replace HBY := hide (HBY.out.below hb8)
                        clear hb8 HR8 HR9
                        go_wp2
                        go_roundw
                        case rel => exact ⟨t + 1, by omega, by simp, HL.out, HM.out, HNA.out, HBX.out, HBY.out⟩
                        case measure => simp [intOf]; omega
                      · obtain rfl : t = 4 := by omega
                        rw [show ((4 : Nat) : Int) = 4 from rfl]
                        go_upto_region 41 with fail
                        obtain ⟨x0, x1, x2, x3, x4, x5, x6⟩ := HBX.out.cc
                        go_wp2_with fail
                        refine (stepP_any _ q G HL.out.pa op HOK.out).mono ?_
                        rintro e w9 ⟨rfl, h1, h2⟩
                        clear x0 x1 x2 x3 x4 x5 x6
                        replace HM := hide (HM.out.other h2 HAP.out.a1.2.1 (Ne.symm HAP.out.a2.2.2.2.1) (Ne.symm HAP.out.a2.2.2.2.2.1) (Ne.symm HAP.out.a2.2.2.2.2.2.1) HL.out.ge.2.1)
                        replace HL := hide (HL.out.pend h2 h1 (pst_ok op HL.out.gk))
                        replace HNA := hide (HNA.out.keep h2 HAP.out.a3.2.1)
                        replace HBX := hide (HBX.out.keep h2 HYN.out.2.1)
                        replace HBY := hide (HBY.out.keep h2 HZN.out.2.1)
                        clear h1 h2
                        obtain ⟨x0, x1, x2, x3, x4, x5, x6⟩ := HBY.out.cc
                        go_wp2_with fail
                        refine (stepP_any _ q2 G2 HM.out.pa (rnO nm op) (rn_ok HPN.out HOK.out)).mono ?_
                        rintro e w10 ⟨rfl, h1, h2⟩
                        clear x0 x1 x2 x3 x4 x5 x6
                        replace HL := hide (HL.out.other h2 HAP.out.a1.2.2.2.2.1 HAP.out.a2.2.1 HAP.out.a2.2.2.2.2.1 HAP.out.a2.2.2.2.2.2.2.2.1 HM.out.ge.2.1)
                        replace HM := hide (HM.out.pend h2 h1 (pst_ok (rnO nm op) HM.out.gk))
                        replace HNA := hide (HNA.out.keep h2 HAP.out.a3.2.2.2.2.1)
                        replace HBX := hide (HBX.out.keep h2 HYN.out.2.2.2.2.1)
                        replace HBY := hide (HBY.out.keep h2 HZN.out.2.2.2.2.1)
                        clear h1 h2
                        go_wp2
                        go_roundw
                        case rel => exact ⟨k + 1, _, _, _, _, _, _, by omega, by simp, HL.out.mono (by omega), HM.out.mono (by omega), HNA.out, HWR, hide (GRel.step HPN.out HGR.out op), HBR⟩
                        case measure => simp [intOf]; omega
                  · have hkb2 : (op.kd == 2) = false := by simp [hkd2]
                    clear hkd2
                    obtain ⟨x0, x1, x2, x3, x4, x5, x6⟩ := HBX.out.cc
                    go_upto_region 41 with fail
                    clear x0 x1 x2 x3 x4 x5 x6
                    obtain ⟨x0, x1, x2, x3, x4, x5, x6⟩ := HBX.out.cc
                    go_wp2_with fail
                    refine (stepP_any _ q G HL.out.pa op HOK.out).mono ?_
                    rintro e w9 ⟨rfl, h1, h2⟩
                    clear x0 x1 x2 x3 x4 x5 x6
                    replace HM := hide (HM.out.other h2 HAP.out.a1.2.1 (Ne.symm HAP.out.a2.2.2.2.1) (Ne.symm HAP.out.a2.2.2.2.2.1) (Ne.symm HAP.out.a2.2.2.2.2.2.1) HL.out.ge.2.1)
                    replace HL := hide (HL.out.pend h2 h1 (pst_ok op HL.out.gk))
                    replace HNA := hide (HNA.out.keep h2 HAP.out.a3.2.1)
                    replace HBX := hide (HBX.out.keep h2 HYN.out.2.1)
                    replace HBY := hide (HBY.out.keep h2 HZN.out.2.1)
                    clear h1 h2
                    obtain ⟨x0, x1, x2, x3, x4, x5, x6⟩ := HBY.out.cc
                    go_wp2_with fail
                    refine (stepP_any _ q2 G2 HM.out.pa (rnO nm op) (rn_ok HPN.out HOK.out)).mono ?_
                    rintro e w10 ⟨rfl, h1, h2⟩
                    clear x0 x1 x2 x3 x4 x5 x6
                    replace HL := hide (HL.out.other h2 HAP.out.a1.2.2.2.2.1 HAP.out.a2.2.1 HAP.out.a2.2.2.2.2.1 HAP.out.a2.2.2.2.2.2.2.2.1 HM.out.ge.2.1)
                    replace HM := hide (HM.out.pend h2 h1 (pst_ok (rnO nm op) HM.out.gk))
                    replace HNA := hide (HNA.out.keep h2 HAP.out.a3.2.2.2.2.1)
                    replace HBX := hide (HBX.out.keep h2 HYN.out.2.2.2.2.1)
                    replace HBY := hide (HBY.out.keep h2 HZN.out.2.2.2.2.1)
                    clear h1 h2
                    go_wp2
                    go_roundw
                    case rel => exact ⟨k + 1, _, _, _, _, _, _, by omega, by simp, HL.out.mono (by omega), HM.out.mono (by omega), HNA.out, HWR, hide (GRel.step HPN.out HGR.out op), HBR⟩
                    case measure => simp [intOf]; omega
                · have hkb : (op.kd == 0) = false := by simp [hkd]
                  by_cases hkd1 : op.kd = 1
                  · have hkc : (op.kd == 1) = true := by simp [hkd1]
                    have HRE := hide (show rnO nm op = { op with b := nm (op.b % 112).toNat } by unfold rnO; rw [if_neg hkd, if_pos hkd1])
                    clear hkd hkd1
                    go_wp2_with fail
                    refine (wrap_any _ op.b 112 (by omega) (by omega) hB.1 hB.2).mono ?_
                    rintro e w4 ⟨rfl, rfl⟩
                    obtain ⟨a1, ha1⟩ : ∃ z : Nat, op.b % 112 = z := ⟨(op.b % 112).toNat, by omega⟩
                    rw [ha1, Int.toNat_natCast] at HRE
                    rw [ha1]
                    have ha2 : a1 < 112 := by omega
                    have ha2i : (a1 : Int) < 112 := by omega
                    have ha0 : decide ((a1 : Int) < 0) = false := by simp
                    clear ha1
                    have cn := HNA.out.c a1 ha2
                    have z1 := HBY.out.cc.2.2.1
                    have fz := HBY.out.f
                    have HS := hide (HBY.out.b (nm a1))
                    replace HL := hide (HL.out.other HS.out.2 (Ne.symm HZM.out.1) (Ne.symm HZN.out.1) (Ne.symm HZN.out.2.1) (Ne.symm HZN.out.2.2.1) HZM.out.2.2)
                    replace HM := hide (HM.out.other HS.out.2 (Ne.symm HZM.out.1) (Ne.symm HZN.out.2.2.2.1) (Ne.symm HZN.out.2.2.2.2.1) (Ne.symm HZN.out.2.2.2.2.2.1) HZM.out.2.2)
                    replace HNA := hide (HNA.out.keep HS.out.2 (Ne.symm HZN.out.2.2.2.2.2.2))
                    replace HBX := hide (HBX.out.keep HS.out.2 (Ne.symm HZM.out.2.1))
                    clear HBY
                    go_upto_region 31 with fail
                    generalize World.setCell _ ⟨z, 2, none⟩ (.int .i64 (nm a1)) = w5 at *
                    have HBY := hide (show BXq w5 z (rnO nm op) by rw [HRE.out]; exact HS.out.1)
                    clear HS cn z1 fz HRE x0 x1 x2 x3 x4 x5 x6
                    obtain ⟨x0, x1, x2, x3, x4, x5, x6⟩ := HBX.out.cc
                    go_wp2_with fail
                    refine (stepW_any _ p W HL.out.wr op HOK.out).mono ?_
                    rintro e w3 ⟨rfl, h1, h2⟩
                    clear x0 x1 x2 x3 x4 x5 x6
                    replace HM := hide (HM.out.other h2 HAP.out.a1.1 (Ne.symm HAP.out.a2.1) (Ne.symm HAP.out.a2.2.1) (Ne.symm HAP.out.a2.2.2.1) HL.out.ge.1)
                    replace HL := hide (HL.out.world h2 h1 (wst_ok op HL.out.wo))
                    replace HNA := hide (HNA.out.keep h2 HAP.out.a3.1)
                    replace HBX := hide (HBX.out.keep h2 HYN.out.1)
                    replace HBY := hide (HBY.out.keep h2 HZN.out.1)
                    clear h1 h2
                    obtain ⟨x0, x1, x2, x3, x4, x5, x6⟩ := HBY.out.cc
                    go_wp2_with fail
                    refine (stepW_any _ p2 W2 HM.out.wr (rnO nm op) (rn_ok HPN.out HOK.out)).mono ?_
                    rintro e w4 ⟨rfl, h1, h2⟩
                    clear x0 x1 x2 x3 x4 x5 x6
                    replace HL := hide (HL.out.other h2 HAP.out.a1.2.2.2.1 HAP.out.a2.1 HAP.out.a2.2.2.2.1 HAP.out.a2.2.2.2.2.2.2.1 HM.out.ge.1)
                    replace HM := hide (HM.out.world h2 h1 (wst_ok (rnO nm op) HM.out.wo))
                    replace HNA := hide (HNA.out.keep h2 HAP.out.a3.2.2.2.1)
                    replace HBX := hide (HBX.out.keep h2 HYN.out.2.2.2.1)
                    replace HBY := hide (HBY.out.keep h2 HZN.out.2.2.2.1)
                    clear h1 h2
                    replace HWR := hide (WRel.step HPN.out HWR.out op)
                    by_cases hkd2 : op.kd = 2
                    · have hkb2 : (op.kd == 2) = true := by simp [hkd2]
                      clear hkd2
                      obtain ⟨x0, x1, x2, x3, x4, x5, x6⟩ := HBX.out.cc
                      go_wp2_with fail
                      refine (list_any _ q G HL.out.pa).mono ?_
                      rintro e w5 ⟨da, dc, rfl, hdr, hb⟩
                      clear x0 x1 x2 x3 x4 x5 x6
                      have HDG := hide (show ∀ g off, da = some ⟨g, off, none⟩ → g < w5.heap.size ∧ g ≠ b from fun g off e => ⟨(hdr.da.2 g off e).2, by have := (hdr.da.2 g off e).1; have := HL.out.bd.lt; omega⟩)
                      replace HL := hide (HL.out.below hb)
                      replace HM := hide (HM.out.below hb)
                      replace HNA := hide (HNA.out.below hb)
                      replace HBX := hide (HBX.out.below hb)
                      replace HBY := hide (HBY.out.below hb)
                      have HDA := hide hdr.da.1
                      have hdl : (lsN G 1792).length ≤ 1792 := lsN_len G 1792
                      clear hdr hb
                      go_wp2_with fail
                      refine (tick_any _ b m p dX dY _ da _ dc (lsN G 1792) TT (1 + 112 * (k : Int)) HL.out.bd HL.out.ti (by omega) HL.out.mt HL.out.ne.2.2.1 HDA.out rfl (by omega) HDG.out HL.out.wr.wa HL.out.ne.2.2.2.2.1 HL.out.wo).mono ?_
                      rintro e w6 ⟨T1n, rfl, hbd, hti, htr, hfr⟩
                      have HT1 := hide htr
                      have HTI := hide HL.out.ti
                      replace HM := hide (HM.out.other hfr HAP.out.a1.2.2.1 (Ne.symm HAP.out.a2.2.2.2.2.2.2.1) (Ne.symm HAP.out.a2.2.2.2.2.2.2.2.1) (Ne.symm HAP.out.a2.2.2.2.2.2.2.2.2) HL.out.ge.2.2)
                      replace HL := hide (HL.out.board hfr hbd hti)
                      replace HNA := hide (HNA.out.keep hfr HAP.out.a3.2.2.1)
                      replace HBX := hide (HBX.out.keep hfr HYN.out.2.2.1)
                      replace HBY := hide (HBY.out.keep hfr HZN.out.2.2.1)
                      clear hbd hti htr hfr HDA HDG
                      go_wp2_with fail
                      refine (list_any _ q2 G2 HM.out.pa).mono ?_
                      rintro e w7 ⟨da, dc, rfl, hdr, hb⟩
                      have HDG := hide (show ∀ g off, da = some ⟨g, off, none⟩ → g < w7.heap.size ∧ g ≠ b2 from fun g off e => ⟨(hdr.da.2 g off e).2, by have := (hdr.da.2 g off e).1; have := HM.out.bd.lt; omega⟩)
                      replace HL := hide (HL.out.below hb)
                      replace HM := hide (HM.out.below hb)
                      replace HNA := hide (HNA.out.below hb)
                      replace HBX := hide (HBX.out.below hb)
                      replace HBY := hide (HBY.out.below hb)
                      have HDA := hide hdr.da.1
                      have hdl2 : (lsN G2 1792).length ≤ 1792 := lsN_len G2 1792
                      clear hdr hb
                      go_wp2_with fail
                      refine (tick_any _ b2 m p2 dX dY _ da _ dc (lsN G2 1792) T2 (1 + 112 * (k : Int)) HM.out.bd HM.out.ti (by omega) HM.out.mt HM.out.ne.2.2.1 HDA.out rfl (by omega) HDG.out HM.out.wr.wa HM.out.ne.2.2.2.2.1 HM.out.wo).mono ?_
                      rintro e w8 ⟨T2n, rfl, hbd, hti, htr, hfr⟩
                      have HT2 := hide htr
                      have HTJ := hide HM.out.ti
                      replace HL := hide (HL.out.other hfr HAP.out.a1.2.2.2.2.2.1 HAP.out.a2.2.2.1 HAP.out.a2.2.2.2.2.2.1 HAP.out.a2.2.2.2.2.2.2.2.2 HM.out.ge.2.2)
                      replace HM := hide (HM.out.board hfr hbd hti)
                      replace HNA := hide (HNA.out.keep hfr HAP.out.a3.2.2.2.2.2)
                      replace HBX := hide (HBX.out.keep hfr HYN.out.2.2.2.2.2.1)
                      replace HBY := hide (HBY.out.keep hfr HZN.out.2.2.2.2.2.1)
                      clear hbd hti htr hfr HDA HDG
                      replace HBR := hide (BRel.tick HPN.out (N := 1 + 112 * (k : Int)) (by omega) HBR.out HGR.out HWR.out HL.out.gk HM.out.gk HL.out.wo HM.out.wo HTI.out HTJ.out HT1.out HT2.out)
                      clear HT1 HT2 HTI HTJ hdl hdl2
                      have HTE := hide (show ∀ t, t < 4 → tabN (T1n t) 64 = tabN (T2n t) 64 from fun t ht => tab_rel (HL.out.ti.tk t ht).inv (HM.out.ti.tk t ht).inv (HBR.out t ht).1)
                      go_wp2
                      go_loopw [18] (fun s18 wx => ∃ t : Nat, t ≤ 4 ∧ s18 = .int .i64 t ∧ LS wz wx m p q b (wstP W op) G T1n (1 + 112 * (k : Int) + 112) ∧ LS wz wx m p2 q2 b2 (wstP W2 (rnO nm op)) G2 T2n (1 + 112 * (k : Int) + 112) ∧ BA wx x nm ∧ BXq wx y op ∧ BXq wx z (rnO nm op)) (fun s18 _ => 4 - (intOf s18).toNat)
                      case atStart => exact ⟨0, by omega, rfl, HL.out, HM.out, HNA.out, HBX.out, HBY.out⟩
                      case round =>
                        clear HL HM HNA HBX HBY
                        obtain ⟨t, ht, rfl, hl, hm, hna, hbx, hby⟩ := hrel
                        have HL := hide hl
                        have HM := hide hm
                        have HNA := hide hna
                        have HBX := hide hbx
                        have HBY := hide hby
                        clear hl hm hna hbx hby
                        by_cases ht4 : t < 4
                        · have ht4i : (t : Int) < 4 := by omega
                          go_wp2_with fail
                          refine (table_any _ b t ht4 (T1n t) (HL.out.bd.ta t ht4)).mono ?_
                          rintro e w12 ⟨ta, tc, rfl, hr8, hb8⟩
                          replace HL := hide (HL.out.below hb8)
                          replace HM := hide (HM.out.below hb8)
                          replace HNA := hide (HNA.out.below hb8)
                          replace HBX := hide (HBX.out.below hb8)
                          replace HBY := hide (HBY.out.below hb8)
                          have HR8 := hide hr8
                          clear hr8 hb8
                          go_wp2_with fail
                          refine (table_any _ b2 t ht4 (T2n t) (HM.out.bd.ta t ht4)).mono ?_
                          rintro e w13 ⟨tb, td, rfl, hr8, hb8⟩
                          replace HL := hide (HL.out.below hb8)
                          replace HM := hide (HM.out.below hb8)
                          replace HNA := hide (HNA.out.below hb8)
                          replace HBX := hide (HBX.out.below hb8)
                          replace HBY := hide (HBY.out.below hb8)
                          replace HR8 := hide (HR8.out.below hb8)
                          have HR9 := hide hr8
                          clear hr8 hb8
                          rw [← HTE.out t ht4] at HR9 ⊢
                          have hLl : (tabN (T1n t) 64).length ≤ 64 := tab_le 64
                          go_wp2_with fail
                          refine (same_any _ _ _ ta tb _ tc td (tabN (T1n t) 64) HR8.out HR9.out rfl hLl).mono ?_
                          rintro e w14 ⟨rfl, hb8⟩
                          replace HL := hide (HL.out.below hb8)
                          replace HM := hide (HM.out.below hb8)
                          replace HNA := hide (HNA.out.below hb8)
                          replace HBX := hide (HBX.out.below hb8)
                          replace HBY := hide (HBY.out.below hb8)
                          clear hb8 HR8 HR9
                          go_wp2
                          go_roundw
                          case rel => exact ⟨t + 1, by omega, by simp, HL.out, HM.out, HNA.out, HBX.out, HBY.out⟩
                          case measure => simp [intOf]; omega
                        · obtain rfl : t = 4 := by omega
                          rw [show ((4 : Nat) : Int) = 4 from rfl]
                          go_upto_region 41 with fail
                          obtain ⟨x0, x1, x2, x3, x4, x5, x6⟩ := HBX.out.cc
                          go_wp2_with fail
                          refine (stepP_any _ q G HL.out.pa op HOK.out).mono ?_
                          rintro e w9 ⟨rfl, h1, h2⟩
                          clear x0 x1 x2 x3 x4 x5 x6
                          replace HM := hide (HM.out.other h2 HAP.out.a1.2.1 (Ne.symm HAP.out.a2.2.2.2.1) (Ne.symm HAP.out.a2.2.2.2.2.1) (Ne.symm HAP.out.a2.2.2.2.2.2.1) HL.out.ge.2.1)
                          replace HL := hide (HL.out.pend h2 h1 (pst_ok op HL.out.gk))
                          replace HNA := hide (HNA.out.keep h2 HAP.out.a3.2.1)
                          replace HBX := hide (HBX.out.keep h2 HYN.out.2.1)
                          replace HBY := hide (HBY.out.keep h2 HZN.out.2.1)
                          clear h1 h2
                          obtain ⟨x0, x1, x2, x3, x4, x5, x6⟩ := HBY.out.cc
                          go_wp2_with fail
                          refine (stepP_any _ q2 G2 HM.out.pa (rnO nm op) (rn_ok HPN.out HOK.out)).mono ?_
                          rintro e w10 ⟨rfl, h1, h2⟩
                          clear x0 x1 x2 x3 x4 x5 x6
                          replace HL := hide (HL.out.other h2 HAP.out.a1.2.2.2.2.1 HAP.out.a2.2.1 HAP.out.a2.2.2.2.2.1 HAP.out.a2.2.2.2.2.2.2.2.1 HM.out.ge.2.1)
                          replace HM := hide (HM.out.pend h2 h1 (pst_ok (rnO nm op) HM.out.gk))
                          replace HNA := hide (HNA.out.keep h2 HAP.out.a3.2.2.2.2.1)
                          replace HBX := hide (HBX.out.keep h2 HYN.out.2.2.2.2.1)
                          replace HBY := hide (HBY.out.keep h2 HZN.out.2.2.2.2.1)
                          clear h1 h2
                          go_wp2
                          go_roundw
                          case rel => exact ⟨k + 1, _, _, _, _, _, _, by omega, by simp, HL.out.mono (by omega), HM.out.mono (by omega), HNA.out, HWR, hide (GRel.step HPN.out HGR.out op), HBR⟩
                          case measure => simp [intOf]; omega
                    · have hkb2 : (op.kd == 2) = false := by simp [hkd2]
                      clear hkd2
                      obtain ⟨x0, x1, x2, x3, x4, x5, x6⟩ := HBX.out.cc
                      go_upto_region 41 with fail
                      clear x0 x1 x2 x3 x4 x5 x6
                      obtain ⟨x0, x1, x2, x3, x4, x5, x6⟩ := HBX.out.cc
                      go_wp2_with fail
                      refine (stepP_any _ q G HL.out.pa op HOK.out).mono ?_
                      rintro e w9 ⟨rfl, h1, h2⟩
                      clear x0 x1 x2 x3 x4 x5 x6
                      replace HM := hide (HM.out.other h2 HAP.out.a1.2.1 (Ne.symm HAP.out.a2.2.2.2.1) (Ne.symm HAP.out.a2.2.2.2.2.1) (Ne.symm HAP.out.a2.2.2.2.2.2.1) HL.out.ge.2.1)
                      replace HL := hide (HL.out.pend h2 h1 (pst_ok op HL.out.gk))
                      replace HNA := hide (HNA.out.keep h2 HAP.out.a3.2.1)
                      replace HBX := hide (HBX.out.keep h2 HYN.out.2.1)
                      replace HBY := hide (HBY.out.keep h2 HZN.out.2.1)
                      clear h1 h2
                      obtain ⟨x0, x1, x2, x3, x4, x5, x6⟩ := HBY.out.cc
                      go_wp2_with fail
                      refine (stepP_any _ q2 G2 HM.out.pa (rnO nm op) (rn_ok HPN.out HOK.out)).mono ?_
                      rintro e w10 ⟨rfl, h1, h2⟩
                      clear x0 x1 x2 x3 x4 x5 x6
                      replace HL := hide (HL.out.other h2 HAP.out.a1.2.2.2.2.1 HAP.out.a2.2.1 HAP.out.a2.2.2.2.2.1 HAP.out.a2.2.2.2.2.2.2.2.1 HM.out.ge.2.1)
                      replace HM := hide (HM.out.pend h2 h1 (pst_ok (rnO nm op) HM.out.gk))
                      replace HNA := hide (HNA.out.keep h2 HAP.out.a3.2.2.2.2.1)
                      replace HBX := hide (HBX.out.keep h2 HYN.out.2.2.2.2.1)
                      replace HBY := hide (HBY.out.keep h2 HZN.out.2.2.2.2.1)
                      clear h1 h2
                      go_wp2
                      go_roundw
                      case rel => exact ⟨k + 1, _, _, _, _, _, _, by omega, by simp, HL.out.mono (by omega), HM.out.mono (by omega), HNA.out, HWR, hide (GRel.step HPN.out HGR.out op), HBR⟩
                      case measure => simp [intOf]; omega
                  · have hkc : (op.kd == 1) = false := by simp [hkd1]
                    have HBY2 := hide (show BXq w3 z (rnO nm op) by unfold rnO; rw [if_neg hkd, if_neg hkd1]; exact HBY.out)
                    clear hkd hkd1 HBY
                    have HBY := HBY2
                    clear HBY2
                    go_upto_region 31 with fail
                    clear x0 x1 x2 x3 x4 x5 x6
                    obtain ⟨x0, x1, x2, x3, x4, x5, x6⟩ := HBX.out.cc
                    go_wp2_with fail
                    refine (stepW_any _ p W HL.out.wr op HOK.out).mono ?_
                    rintro e w3 ⟨rfl, h1, h2⟩
                    clear x0 x1 x2 x3 x4 x5 x6
                    replace HM := hide (HM.out.other h2 HAP.out.a1.1 (Ne.symm HAP.out.a2.1) (Ne.symm HAP.out.a2.2.1) (Ne.symm HAP.out.a2.2.2.1) HL.out.ge.1)
                    replace HL := hide (HL.out.world h2 h1 (wst_ok op HL.out.wo))
                    replace HNA := hide (HNA.out.keep h2 HAP.out.a3.1)
                    replace HBX := hide (HBX.out.keep h2 HYN.out.1)
                    replace HBY := hide (HBY.out.keep h2 HZN.out.1)
                    clear h1 h2
                    obtain ⟨x0, x1, x2, x3, x4, x5, x6⟩ := HBY.out.cc
                    go_wp2_with fail
                    refine (stepW_any _ p2 W2 HM.out.wr (rnO nm op) (rn_ok HPN.out HOK.out)).mono ?_
                    rintro e w4 ⟨rfl, h1, h2⟩
                    clear x0 x1 x2 x3 x4 x5 x6
                    replace HL := hide (HL.out.other h2 HAP.out.a1.2.2.2.1 HAP.out.a2.1 HAP.out.a2.2.2.2.1 HAP.out.a2.2.2.2.2.2.2.1 HM.out.ge.1)
                    replace HM := hide (HM.out.world h2 h1 (wst_ok (rnO nm op) HM.out.wo))
                    replace HNA := hide (HNA.out.keep h2 HAP.out.a3.2.2.2.1)
                    replace HBX := hide (HBX.out.keep h2 HYN.out.2.2.2.1)
                    replace HBY := hide (HBY.out.keep h2 HZN.out.2.2.2.1)
                    clear h1 h2
                    replace HWR := hide (WRel.step HPN.out HWR.out op)
                    by_cases hkd2 : op.kd = 2
                    · have hkb2 : (op.kd == 2) = true := by simp [hkd2]
                      clear hkd2
                      obtain ⟨x0, x1, x2, x3, x4, x5, x6⟩ := HBX.out.cc
                      go_wp2_with fail
                      refine (list_any _ q G HL.out.pa).mono ?_
                      rintro e w5 ⟨da, dc, rfl, hdr, hb⟩
                      clear x0 x1 x2 x3 x4 x5 x6
                      have HDG := hide (show ∀ g off, da = some ⟨g, off, none⟩ → g < w5.heap.size ∧ g ≠ b from fun g off e => ⟨(hdr.da.2 g off e).2, by have := (hdr.da.2 g off e).1; have := HL.out.bd.lt; omega⟩)
                      replace HL := hide (HL.out.below hb)
                      replace HM := hide (HM.out.below hb)
                      replace HNA := hide (HNA.out.below hb)
                      replace HBX := hide (HBX.out.below hb)
                      replace HBY := hide (HBY.out.below hb)
                      have HDA := hide hdr.da.1
                      have hdl : (lsN G 1792).length ≤ 1792 := lsN_len G 1792
                      clear hdr hb
                      go_wp2_with fail
                      refine (tick_any _ b m p dX dY _ da _ dc (lsN G 1792) TT (1 + 112 * (k : Int)) HL.out.bd HL.out.ti (by omega) HL.out.mt HL.out.ne.2.2.1 HDA.out rfl (by omega) HDG.out HL.out.wr.wa HL.out.ne.2.2.2.2.1 HL.out.wo).mono ?_
                      rintro e w6 ⟨T1n, rfl, hbd, hti, htr, hfr⟩
                      have HT1 := hide htr
                      have HTI := hide HL.out.ti
                      replace HM := hide (HM.out.other hfr HAP.out.a1.2.2.1 (Ne.symm HAP.out.a2.2.2.2.2.2.2.1) (Ne.symm HAP.out.a2.2.2.2.2.2.2.2.1) (Ne.symm HAP.out.a2.2.2.2.2.2.2.2.2) HL.out.ge.2.2)
                      replace HL := hide (HL.out.board hfr hbd hti)
                      replace HNA := hide (HNA.out.keep hfr HAP.out.a3.2.2.1)
                      replace HBX := hide (HBX.out.keep hfr HYN.out.2.2.1)
                      replace HBY := hide (HBY.out.keep hfr HZN.out.2.2.1)
                      clear hbd hti htr hfr HDA HDG
                      go_wp2_with fail
                      refine (list_any _ q2 G2 HM.out.pa).mono ?_
                      rintro e w7 ⟨da, dc, rfl, hdr, hb⟩
                      have HDG := hide (show ∀ g off, da = some ⟨g, off, none⟩ → g < w7.heap.size ∧ g ≠ b2 from fun g off e => ⟨(hdr.da.2 g off e).2, by have := (hdr.da.2 g off e).1; have := HM.out.bd.lt; omega⟩)
                      replace HL := hide (HL.out.below hb)
                      replace HM := hide (HM.out.below hb)
                      replace HNA := hide (HNA.out.below hb)
                      replace HBX := hide (HBX.out.below hb)
                      replace HBY := hide (HBY.out.below hb)
                      have HDA := hide hdr.da.1
                      have hdl2 : (lsN G2 1792).length ≤ 1792 := lsN_len G2 1792
                      clear hdr hb
                      go_wp2_with fail
                      refine (tick_any _ b2 m p2 dX dY _ da _ dc (lsN G2 1792) T2 (1 + 112 * (k : Int)) HM.out.bd HM.out.ti (by omega) HM.out.mt HM.out.ne.2.2.1 HDA.out rfl (by omega) HDG.out HM.out.wr.wa HM.out.ne.2.2.2.2.1 HM.out.wo).mono ?_
                      rintro e w8 ⟨T2n, rfl, hbd, hti, htr, hfr⟩
                      have HT2 := hide htr
                      have HTJ := hide HM.out.ti
                      replace HL := hide (HL.out.other hfr HAP.out.a1.2.2.2.2.2.1 HAP.out.a2.2.2.1 HAP.out.a2.2.2.2.2.2.1 HAP.out.a2.2.2.2.2.2.2.2.2 HM.out.ge.2.2)
                      replace HM := hide (HM.out.board hfr hbd hti)
                      replace HNA := hide (HNA.out.keep hfr HAP.out.a3.2.2.2.2.2)
                      replace HBX := hide (HBX.out.keep hfr HYN.out.2.2.2.2.2.1)
                      replace HBY := hide (HBY.out.keep hfr HZN.out.2.2.2.2.2.1)
                      clear hbd hti htr hfr HDA HDG
                      replace HBR := hide (BRel.tick HPN.out (N := 1 + 112 * (k : Int)) (by omega) HBR.out HGR.out HWR.out HL.out.gk HM.out.gk HL.out.wo HM.out.wo HTI.out HTJ.out HT1.out HT2.out)
                      clear HT1 HT2 HTI HTJ hdl hdl2
                      have HTE := hide (show ∀ t, t < 4 → tabN (T1n t) 64 = tabN (T2n t) 64 from fun t ht => tab_rel (HL.out.ti.tk t ht).inv (HM.out.ti.tk t ht).inv (HBR.out t ht).1)
                      go_wp2
                      go_loopw [18] (fun s18 wx => ∃ t : Nat, t ≤ 4 ∧ s18 = .int .i64 t ∧ LS wz wx m p q b (wstP W op) G T1n (1 + 112 * (k : Int) + 112) ∧ LS wz wx m p2 q2 b2 (wstP W2 (rnO nm op)) G2 T2n (1 + 112 * (k : Int) + 112) ∧ BA wx x nm ∧ BXq wx y op ∧ BXq wx z (rnO nm op)) (fun s18 _ => 4 - (intOf s18).toNat)
                      case atStart => exact ⟨0, by omega, rfl, HL.out, HM.out, HNA.out, HBX.out, HBY.out⟩
                      case round =>
                        clear HL HM HNA HBX HBY
                        obtain ⟨t, ht, rfl, hl, hm, hna, hbx, hby⟩ := hrel
                        have HL := hide hl
                        have HM := hide hm
                        have HNA := hide hna
                        have HBX := hide hbx
                        have HBY := hide hby
                        clear hl hm hna hbx hby
                        by_cases ht4 : t < 4
                        · have ht4i : (t : Int) < 4 := by omega
                          go_wp2_with fail
                          refine (table_any _ b t ht4 (T1n t) (HL.out.bd.ta t ht4)).mono ?_
                          rintro e w12 ⟨ta, tc, rfl, hr8, hb8⟩
                          replace HL := hide (HL.out.below hb8)
                          replace HM := hide (HM.out.below hb8)
                          replace HNA := hide (HNA.out.below hb8)
                          replace HBX := hide (HBX.out.below hb8)
                          replace HBY := hide (HBY.out.below hb8)
                          have HR8 := hide hr8
                          clear hr8 hb8
                          go_wp2_with fail
                          refine (table_any _ b2 t ht4 (T2n t) (HM.out.bd.ta t ht4)).mono ?_
                          rintro e w13 ⟨tb, td, rfl, hr8, hb8⟩
                          replace HL := hide (HL.out.below hb8)
                          replace HM := hide (HM.out.below hb8)
                          replace HNA := hide (HNA.out.below hb8)
                          replace HBX := hide (HBX.out.below hb8)
                          replace HBY := hide (HBY.out.below hb8)
                          replace HR8 := hide (HR8.out.below hb8)
                          have HR9 := hide hr8
                          clear hr8 hb8
                          rw [← HTE.out t ht4] at HR9 ⊢
                          have hLl : (tabN (T1n t) 64).length ≤ 64 := tab_le 64
                          go_wp2_with fail
                          refine (same_any _ _ _ ta tb _ tc td (tabN (T1n t) 64) HR8.out HR9.out rfl hLl).mono ?_
                          rintro e w14 ⟨rfl, hb8⟩
                          replace HL := hide (HL.out.below hb8)
                          replace HM := hide (HM.out.below hb8)
                          replace HNA := hide (HNA.out.below hb8)
                          replace HBX := hide (HBX.out.below hb8)
                          replace HBY := hide (HBY.out.below hb8)
                          clear hb8 HR8 HR9
                          go_wp2
                          go_roundw
                          case rel => exact ⟨t + 1, by omega, by simp, HL.out, HM.out, HNA.out, HBX.out, HBY.out⟩
                          case measure => simp [intOf]; omega
                        · obtain rfl : t = 4 := by omega
                          rw [show ((4 : Nat) : Int) = 4 from rfl]
                          go_upto_region 41 with fail
                          obtain ⟨x0, x1, x2, x3, x4, x5, x6⟩ := HBX.out.cc
                          go_wp2_with fail
                          refine (stepP_any _ q G HL.out.pa op HOK.out).mono ?_
                          rintro e w9 ⟨rfl, h1, h2⟩
                          clear x0 x1 x2 x3 x4 x5 x6
                          replace HM := hide (HM.out.other h2 HAP.out.a1.2.1 (Ne.symm HAP.out.a2.2.2.2.1) (Ne.symm HAP.out.a2.2.2.2.2.1) (Ne.symm HAP.out.a2.2.2.2.2.2.1) HL.out.ge.2.1)
                          replace HL := hide (HL.out.pend h2 h1 (pst_ok op HL.out.gk))
                          replace HNA := hide (HNA.out.keep h2 HAP.out.a3.2.1)
                          replace HBX := hide (HBX.out.keep h2 HYN.out.2.1)
                          replace HBY := hide (HBY.out.keep h2 HZN.out.2.1)
                          clear h1 h2
                          obtain ⟨x0, x1, x2, x3, x4, x5, x6⟩ := HBY.out.cc
                          go_wp2_with fail
                          refine (stepP_any _ q2 G2 HM.out.pa (rnO nm op) (rn_ok HPN.out HOK.out)).mono ?_
                          rintro e w10 ⟨rfl, h1, h2⟩
                          clear x0 x1 x2 x3 x4 x5 x6
                          replace HL := hide (HL.out.other h2 HAP.out.a1.2.2.2.2.1 HAP.out.a2.2.1 HAP.out.a2.2.2.2.2.1 HAP.out.a2.2.2.2.2.2.2.2.1 HM.out.ge.2.1)
                          replace HM := hide (HM.out.pend h2 h1 (pst_ok (rnO nm op) HM.out.gk))
                          replace HNA := hide (HNA.out.keep h2 HAP.out.a3.2.2.2.2.1)
                          replace HBX := hide (HBX.out.keep h2 HYN.out.2.2.2.2.1)
                          replace HBY := hide (HBY.out.keep h2 HZN.out.2.2.2.2.1)
                          clear h1 h2
                          go_wp2
                          go_roundw
                          case rel => exact ⟨k + 1, _, _, _, _, _, _, by omega, by simp, HL.out.mono (by omega), HM.out.mono (by omega), HNA.out, HWR, hide (GRel.step HPN.out HGR.out op), HBR⟩
                          case measure => simp [intOf]; omega
                    · have hkb2 : (op.kd == 2) = false := by simp [hkd2]
                      clear hkd2
                      obtain ⟨x0, x1, x2, x3, x4, x5, x6⟩ := HBX.out.cc
                      go_upto_region 41 with fail
                      clear x0 x1 x2 x3 x4 x5 x6
                      obtain ⟨x0, x1, x2, x3, x4, x5, x6⟩ := HBX.out.cc
                      go_wp2_with fail
                      refine (stepP_any _ q G HL.out.pa op HOK.out).mono ?_
                      rintro e w9 ⟨rfl, h1, h2⟩
                      clear x0 x1 x2 x3 x4 x5 x6
                      replace HM := hide (HM.out.other h2 HAP.out.a1.2.1 (Ne.symm HAP.out.a2.2.2.2.1) (Ne.symm HAP.out.a2.2.2.2.2.1) (Ne.symm HAP.out.a2.2.2.2.2.2.1) HL.out.ge.2.1)
                      replace HL := hide (HL.out.pend h2 h1 (pst_ok op HL.out.gk))
                      replace HNA := hide (HNA.out.keep h2 HAP.out.a3.2.1)
                      replace HBX := hide (HBX.out.keep h2 HYN.out.2.1)
                      replace HBY := hide (HBY.out.keep h2 HZN.out.2.1)
                      clear h1 h2
                      obtain ⟨x0, x1, x2, x3, x4, x5, x6⟩ := HBY.out.cc
                      go_wp2_with fail
                      refine (stepP_any _ q2 G2 HM.out.pa (rnO nm op) (rn_ok HPN.out HOK.out)).mono ?_
                      rintro e w10 ⟨rfl, h1, h2⟩
                      clear x0 x1 x2 x3 x4 x5 x6
                      replace HL := hide (HL.out.other h2 HAP.out.a1.2.2.2.2.1 HAP.out.a2.2.1 HAP.out.a2.2.2.2.2.1 HAP.out.a2.2.2.2.2.2.2.2.1 HM.out.ge.2.1)
                      replace HM := hide (HM.out.pend h2 h1 (pst_ok (rnO nm op) HM.out.gk))
                      replace HNA := hide (HNA.out.keep h2 HAP.out.a3.2.2.2.2.1)
                      replace HBX := hide (HBX.out.keep h2 HYN.out.2.2.2.2.1)
                      replace HBY := hide (HBY.out.keep h2 HZN.out.2.2.2.2.1)
                      clear h1 h2
                      go_wp2
                      go_roundw
                      case rel => exact ⟨k + 1, _, _, _, _, _, _, by omega, by simp, HL.out.mono (by omega), HM.out.mono (by omega), HNA.out, HWR, hide (GRel.step HPN.out HGR.out op), HBR⟩
                      case measure => simp [intOf]; omega
              · obtain rfl : k = n := by omega
                have hlti : ¬ (k : Int) < (k : Int) := by omega
                go_wp2
                go_ret
                exact ⟨rfl, lec HWB.out HL.out.bel⟩
  · go_enter Try.func6, Try.ntmps6
    go_wp2_with fail
    refine (small_any _ a n cap hn).mono ?_
    rintro e w' ⟨rfl, ew⟩
    rw [ew]
    have hd : decide (n ≤ 65536) = false := by simpa using hsm
    rw [hd]
    clear hd ew w'
    go_wp2
    go_ret
    exact ⟨rfl, Below.refl _ _⟩
end Go.Proofs.Qxb6500777a
