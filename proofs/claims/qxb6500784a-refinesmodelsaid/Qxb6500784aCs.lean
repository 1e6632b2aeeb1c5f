import Derived.Test.Qxb6500784aOp
namespace Go.Proofs.Qxb6500784a
open Go.RowKit

def takenP (l : Led0) (f q : Int) : Bool := l.mks.any fun p => decide (p.1 = f) && decide (p.2 = q)
/-- The sum of a token's balances over the first k accounts, modulo 2^64. -/
def supK (l : Led0) (t : Nat) : Nat → Int
  | 0 => 0
  | k + 1 => (supK l t k + fld l.bal (k * 4 + t)) % 18446744073709551616
def supP (l : Led0) (t : Int) : Int := supK l t.toNat 64
theorem bal_at {l : Led0} (h : l.Ok) {j : Nat} (hj : j < 256) : l.bal[j]? = some (fld l.bal j) := by
  rw [fld, List.getElem?_eq_getElem (by rw [h.bl]; exact hj)]; rfl
theorem bal_r {l : Led0} (h : l.Ok) {j : Nat} (hj : j < 256) : 0 ≤ fld l.bal j ∧ fld l.bal j < 18446744073709551616 := h.b _ (List.mem_of_getElem? (bal_at h hj))
theorem non_at {l : Led0} (h : l.Ok) {j : Nat} (hj : j < 64) : l.non[j]? = some (fld l.non j) := by
  rw [fld, List.getElem?_eq_getElem (by rw [h.nl]; exact hj)]; rfl
theorem non_r {l : Led0} (h : l.Ok) {j : Nat} (hj : j < 64) : 0 ≤ fld l.non j ∧ fld l.non j < 18446744073709551616 := h.n _ (List.mem_of_getElem? (non_at h hj))
theorem supK_r (l : Led0) (t : Nat) : ∀ k, 0 ≤ supK l t k ∧ supK l t k < 18446744073709551616
  | 0 => by simp [supK]
  | k + 1 => ⟨Int.emod_nonneg _ (by omega), Int.emod_lt_of_pos _ (by omega)⟩
set_option linter.unusedSimpArgs false in
set_option maxRecDepth 100000 in
set_option maxHeartbeats 4000000 in
theorem consumed_any (w : World) (b o : Nat) (l : Led0) (sv : List Led0) (B : List Nat) (f q : Int) (h : LA w b o l sv B) (hl : l.mks.length ≤ 1000000000000) :
    Calls Try.prog 91 #[.pointer (some ⟨b, o, none⟩), .int .u8 f, .int .u64 q] w fun e w' => e = .returned (.bool (takenP l f q)) ∧ Below w.heap.size w w' := by
  obtain ⟨m, c1, hm, _⟩ := h.mrk
  obtain ⟨a, c, rfl⟩ := own_form hm
  have HM := hide hm
  have HT : Hid (takenP l f q = l.mks.any fun p => decide (p.1 = f) && decide (p.2 = q)) := rfl
  generalize takenP l f q = G at *
  clear h hm
  generalize l.mks = L at *
  obtain ⟨n, hn⟩ : ∃ n, L.length = n := ⟨_, rfl⟩
  rw [hn] at c1 HM
  have HN := hide hn
  rw [hn] at hl
  clear hn
  go_enter Try.func91, Try.ntmps91
  go_wp2
  clear c1
  go_loopw [14] (fun x wr => ∃ k : Nat, k ≤ n ∧ x = .int .i64 k ∧ Below w.heap.size w wr ∧ ∀ i p, i < k → L[i]? = some p → ¬ (p.1 = f ∧ p.2 = q)) (fun x _ => n - (intOf x).toNat)
  case atStart => exact ⟨0, Nat.zero_le _, rfl, Below.refl _ _, fun i p hi => by omega⟩
  case round =>
    obtain ⟨k, hk, rfl, hb, hno⟩ := hrel
    have HB := hide hb
    have HNO := hide hno
    clear hb hno
    by_cases hlt : k < n
    · obtain ⟨⟨p1, p2⟩, hp⟩ : ∃ p, L[k]? = some p := ⟨_, List.getElem?_eq_getElem (by have := HN.out; omega)⟩
      obtain ⟨g, c', hg⟩ := own_some HM.out (by omega)
      cases hg
      have hrg := range_flat (f := markV) (k := 2) (fun _ _ => rfl) (own_range HM.out) hp
      have hrw := range_below hrg (World.block_lt_of_cell? _ _ (hrg 0 _ rfl)) HB.out
      have c0 : wr.cell? ⟨g, k * 2, none⟩ = some (.int .u8 p1) := hrw 0 _ rfl
      have c1 : wr.cell? ⟨g, k * 2 + 1, none⟩ = some (.int .u64 p2) := hrw 1 _ rfl
      have HP := hide hp
      clear hp hrg hrw
      have HB2 := hide (HB.out.alloc HB.out.size (.cells #[.int .u8 p1, .int .u64 p2] 151))
      go_upto_region 4 with fail
      generalize hW : wr.alloc (.cells #[.int .u8 p1, .int .u64 p2] 151) = w2 at *
      have z0 : w2.cell? ⟨wr.heap.size, 0, none⟩ = some (.int .u8 p1) := by rw [← hW]; simp [go_sem]
      have z1 : w2.cell? ⟨wr.heap.size, 1, none⟩ = some (.int .u64 p2) := by rw [← hW]; simp [go_sem]
      clear hW c0 c1
      by_cases h1 : p1 = f
      · by_cases h2 : p2 = q
        · have e1 : (p1 == f) = true := by simpa using h1
          have e2 : (p2 == q) = true := by simpa using h2
          have HG : Hid (G = true) := by rw [HT.out]; exact List.any_eq_true.2 ⟨(p1, p2), List.mem_of_getElem? HP.out, by simp [h1, h2]⟩
          clear h1 h2
          go_wp2
          go_ret
          exact ⟨by rw [HG.out]; rfl, HB2.out⟩
        · have e1 : (p1 == f) = true := by simpa using h1
          have e2 : (p2 == q) = false := by simpa using h2
          have HQ := hide h2
          clear h1 h2
          go_wp2
          go_roundw
          case rel => exact ⟨k + 1, by omega, by go_num, HB2.out, fun i p hi hp hc => by
            rcases Nat.lt_or_ge i k with z | z
            · exact HNO.out i p z hp hc
            · obtain rfl : i = k := by omega
              rw [HP.out] at hp
              cases hp
              exact HQ.out hc.2⟩
          case measure => simp [intOf]; omega
      · have e1 : (p1 == f) = false := by simpa using h1
        have HQ := hide h1
        clear h1
        go_wp2
        go_roundw
        case rel => exact ⟨k + 1, by omega, by go_num, HB2.out, fun i p hi hp hc => by
          rcases Nat.lt_or_ge i k with z | z
          · exact HNO.out i p z hp hc
          · obtain rfl : i = k := by omega
            rw [HP.out] at hp
            cases hp
            exact HQ.out hc.1⟩
        case measure => simp [intOf]; omega
    · have HG : Hid (G = false) := by
        rw [HT.out]
        refine Bool.eq_false_iff.2 fun e => ?_
        obtain ⟨p, hp, e⟩ := List.any_eq_true.1 e
        obtain ⟨i, hi⟩ := List.mem_iff_getElem?.1 hp
        have := (List.getElem?_eq_some_iff.1 hi).1
        have hN := HN.out
        exact HNO.out i p (by omega) hi (by simpa using e)
      go_wp2
      go_ret
      exact ⟨by rw [HG.out]; rfl, HB.out⟩

set_option linter.unusedSimpArgs false in
set_option maxRecDepth 100000 in
set_option maxHeartbeats 4000000 in
theorem supply_any (w : World) (b o : Nat) (l : Led0) (sv : List Led0) (B : List Nat) (t : Nat) (ht : t < 4) (h : LA w b o l sv B) :
    Calls Try.prog 40 #[.pointer (some ⟨b, o, none⟩), .int .u8 t] w fun e w' => e = .returned (.int .u64 (supP l t)) ∧ Below w.heap.size w w' := by
  have HL := hide h
  clear h
  go_enter Try.func40, Try.ntmps40
  go_wp2
  go_loopw [5, 6] (fun x y wr => ∃ k : Nat, k ≤ 64 ∧ y = .int .i64 k ∧ x = .int .u64 (supK l t k) ∧ Below w.heap.size w wr) (fun _ y _ => 64 - (intOf y).toNat)
  case atStart => exact ⟨0, Nat.zero_le _, rfl, rfl, Below.refl _ _⟩
  case round =>
    obtain ⟨k, hk, rfl, rfl, hb⟩ := hrel
    have HB := hide hb
    clear hb
    by_cases hlt : k < 64
    · have d1 : decide ((k : Int) < 64) = true := by simp; omega
      have hki : (k : Int) < 64 := by omega
      have HLw := hide (HL.out.below HB.out)
      obtain ⟨S0, hS0⟩ : ∃ S0, supK l t k = S0 := ⟨_, rfl⟩
      obtain ⟨bv, hbv⟩ : ∃ bv, fld l.bal (k * 4 + t) = bv := ⟨_, rfl⟩
      have HS1 : Hid (supK l t (k + 1) = (S0 + bv) % 18446744073709551616) := by rw [← hS0, ← hbv]; rfl
      have cb : wr.cell? ⟨b, o + 1 + (k * 4 + t), none⟩ = some (.int .u64 bv) := by
        rw [show o + 1 + (k * 4 + t) = o + (1 + (k * 4 + t)) by omega]
        exact HLw.out.cell (fun m s => by rw [Led0.atB m s (bal_at HLw.out.ok (j := k * 4 + t) (by omega)), hbv])
      rw [hS0]
      clear hS0 hbv
      have hwk : IntKind.u8.wrap (k : Int) = k := by rw [IntKind.wrap_u8]; omega
      have hto : ((k : Int) * 4 + t).toNat = k * 4 + t := by omega
      have hi0 : 0 ≤ (k : Int) * 4 + t := by omega
      have hi1 : (k : Int) * 4 + t < 256 := by omega
      have HBD := hide (HB.out.drew)
      go_upto_region 5 with fail
      refine wp_region_held_drew (S := fun w' => w'.cell? ⟨b, o + 1 + (k * 4 + t), none⟩ = some (.int .u64 bv)) (by kernel_rfl) cb (fun hHeld => ?_)

      refine wpAnyH_take (i := 0) (v := ?_) rfl (by kernel_rfl) (by kernel_rfl) (by kernel_rfl) (fun _ _ _ h => h) (Or.inl ⟨by rfl, ?_⟩) (by assumption) ?_
      rotate_left
      · (intro w hSw; (try dsimp only at hSw); go_simp; try (with_reducible rfl))
      try simp only [Act.put, List.getElem_toArray, List.getElem_cons_zero, List.getElem_cons_succ, List.setIfInBounds_toArray, List.set_cons_zero, List.set_cons_succ]
      refine wpAnyH_take (i := 1) (v := ?_) rfl (by kernel_rfl) (by kernel_rfl) (by kernel_rfl) (fun _ _ _ h => h) (Or.inl ⟨by rfl, ?_⟩) (by assumption) ?_
      rotate_left
      · (intro w hSw; (try dsimp only at hSw); go_simp; try (with_reducible rfl))
      try simp only [Act.put, List.getElem_toArray, List.getElem_cons_zero, List.getElem_cons_succ, List.setIfInBounds_toArray, List.set_cons_zero, List.set_cons_succ]
      refine wpAnyH_take (i := 2) (v := ?_) rfl (by kernel_rfl) (by kernel_rfl) (by kernel_rfl) (fun _ _ _ h => h) (Or.inl ⟨by rfl, ?_⟩) (by assumption) ?_
      rotate_left
      · (intro w hSw; (try dsimp only at hSw); go_simp; try (with_reducible rfl))
      try simp only [Act.put, List.getElem_toArray, List.getElem_cons_zero, List.getElem_cons_succ, List.setIfInBounds_toArray, List.set_cons_zero, List.set_cons_succ]
      refine wpAnyH_take (i := 3) (v := ?_) rfl (by kernel_rfl) (by kernel_rfl) (by kernel_rfl) (fun _ _ _ h => h) (Or.inl ⟨by rfl, ?_⟩) (by assumption) ?_
      rotate_left
      · (intro w hSw; (try dsimp only at hSw); go_simp; try (with_reducible rfl))
      try simp only [Act.put, List.getElem_toArray, List.getElem_cons_zero, List.getElem_cons_succ, List.setIfInBounds_toArray, List.set_cons_zero, List.set_cons_succ]
      refine wpAnyH_take (i := 4) (v := ?_) rfl (by kernel_rfl) (by kernel_rfl) (by kernel_rfl) (fun _ _ _ h => h) (Or.inl ⟨by rfl, ?_⟩) (by assumption) ?_
      rotate_left
      · (intro w hSw; (try dsimp only at hSw); go_simp; try (with_reducible rfl))
      try simp only [Act.put, List.getElem_toArray, List.getElem_cons_zero, List.getElem_cons_succ, List.setIfInBounds_toArray, List.set_cons_zero, List.set_cons_succ]
      refine wpAnyH_take (i := 6) (v := ?_) rfl (by kernel_rfl) (by kernel_rfl) (by kernel_rfl) (fun _ _ _ h => h) (Or.inl ⟨by rfl, ?_⟩) (by assumption) ?_
      rotate_left
      · (intro w hSw; (try dsimp only at hSw); go_simp; try (with_reducible rfl))
      try simp only [Act.put, List.getElem_toArray, List.getElem_cons_zero, List.getElem_cons_succ, List.setIfInBounds_toArray, List.set_cons_zero, List.set_cons_succ]
      refine wpAnyH_take (i := 7) (v := ?_) rfl (by kernel_rfl) (by kernel_rfl) (by kernel_rfl) (fun _ _ _ h => h) (Or.inl ⟨by rfl, ?_⟩) (by assumption) ?_
      rotate_left
      · (intro w hSw; (try dsimp only at hSw); go_simp; try (with_reducible rfl))
      try simp only [Act.put, List.getElem_toArray, List.getElem_cons_zero, List.getElem_cons_succ, List.setIfInBounds_toArray, List.set_cons_zero, List.set_cons_succ]
      refine wpAnyH_ready (rs := [5]) (by kernel_rfl) (by simp) ?_
      refine (AllReadyH.cons rfl (fun K hK => ?_) AllReadyH.nil)
      refine step_call rfl 70 #[.int .u8 (k : Int), .int .u8 (t : Int)] (by simp [go_sem, hwk]) (at_any _ k t (by omega) (by omega) (by omega) (by omega)) ?_
      rintro e w8 ⟨rfl, rfl⟩
      refine ⟨_, rfl, ?_⟩
      refine hK.out _ _ ?_ (fun hHeld => ?_)
      · exact cb
      clear hK K
      try simp only [Act.put, List.getElem_toArray, List.getElem_cons_zero, List.getElem_cons_succ, List.setIfInBounds_toArray, List.set_cons_zero, List.set_cons_succ]
      refine wpAnyH_take (i := 8) (v := ?_) rfl (by kernel_rfl) (by kernel_rfl) (by kernel_rfl) (fun _ _ _ h => h) (Or.inl ⟨by rfl, ?_⟩) (by assumption) ?_
      rotate_left
      · (intro w hSw; (try dsimp only at hSw); go_simp; try (with_reducible rfl))
      try simp only [Act.put, List.getElem_toArray, List.getElem_cons_zero, List.getElem_cons_succ, List.setIfInBounds_toArray, List.set_cons_zero, List.set_cons_succ]
      refine wpAnyH_take (i := 9) (v := ?_) rfl (by kernel_rfl) (by kernel_rfl) (by kernel_rfl) (fun _ _ _ h => h) (Or.inl ⟨by rfl, ?_⟩) (by assumption) ?_
      rotate_left
      · (intro w hSw; (try dsimp only at hSw); go_simp; try (with_reducible rfl))
      try simp only [Act.put, List.getElem_toArray, List.getElem_cons_zero, List.getElem_cons_succ, List.setIfInBounds_toArray, List.set_cons_zero, List.set_cons_succ]
      refine wpAnyH_take (i := 10) (v := ?_) rfl (by kernel_rfl) (by kernel_rfl) (by kernel_rfl) (fun _ _ _ h => h) (Or.inl ⟨by rfl, ?_⟩) (by assumption) ?_
      rotate_left
      · (intro w hSw; (try dsimp only at hSw); go_simp; try (with_reducible rfl))
      try simp only [Act.put, List.getElem_toArray, List.getElem_cons_zero, List.getElem_cons_succ, List.setIfInBounds_toArray, List.set_cons_zero, List.set_cons_succ]
      refine wpAnyH_take (i := 11) (v := ?_) rfl (by kernel_rfl) (by kernel_rfl) (by kernel_rfl) (fun _ _ _ h => h) (Or.inl ⟨by rfl, ?_⟩) (by assumption) ?_
      rotate_left
      · (intro w hSw; (try dsimp only at hSw); go_simp; try (with_reducible rfl))
      try simp only [Act.put, List.getElem_toArray, List.getElem_cons_zero, List.getElem_cons_succ, List.setIfInBounds_toArray, List.set_cons_zero, List.set_cons_succ]
      refine wpAnyH_done (by kernel_rfl) ?_ _
      generalize World.drew wr = w9 at *
      go_wp2
      go_roundw
      case rel => exact ⟨k + 1, by omega, by go_num, by rw [HS1.out]; go_num, HBD.out⟩
      case measure => simp [intOf]; omega
    · obtain rfl : k = 64 := by omega
      have HSP : Hid (supP l t = supK l t 64) := by simp [Hid, supP]
      generalize supK l t 64 = S0 at *
      go_wp2
      go_ret
      exact ⟨by rw [HSP.out]; rfl, HB.out⟩
end Go.Proofs.Qxb6500784a
