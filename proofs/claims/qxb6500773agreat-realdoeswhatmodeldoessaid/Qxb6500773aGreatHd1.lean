import Derived.Test.Qxb6500773aGreatSc5
import Derived.Deep.CutBlock
namespace Go.Proofs.Qxb6500773aGreat
open Go.RowKit

/-- Past the blanks. -/
def blkE (T : Nat → Int) (n : Nat) : Nat → Nat → Nat
  | 0, i => i
  | k + 1, i => if i < n ∧ blankP (T i) = true then blkE T n k (i + 1) else i
theorem blkE_rng (T : Nat → Int) (n : Nat) : ∀ k i, i ≤ n → i ≤ blkE T n k i ∧ blkE T n k i ≤ n
  | 0, i, h => ⟨Nat.le_refl _, h⟩
  | k + 1, i, h => by
    rw [blkE]
    split
    · next hc => have := blkE_rng T n k (i + 1) (by omega); omega
    · exact ⟨Nat.le_refl _, h⟩
/-- Is there more on the line? -/
def moreP (T : Nat → Int) (n o : Nat) : Bool := decide (o < n) && (T o != 10)
def SiPost (w : World) (s : Nat) (a : Option Addr) (n c : Nat) (T : Nat → Int) (off : Nat) (line : Int) (bol : Nat) (b : Bool) (e : Ending) (w' : World) : Prop := e = .returned (.bool b) ∧ SC w' s a n c T off line bol ∧ Ex (fun k => k = s) w w'
set_option linter.unusedSimpArgs false in
set_option maxRecDepth 100000 in
set_option maxHeartbeats 4000000 in
/-- cnf.scanner.seekInLine -/
theorem seekInLine_any (w : World) (s n c off bol : Nat) (a : Option Addr) (T : Nat → Int) (line : Int) (h : SC w s a n c T off line bol) (hn : n ≤ 4611686018427387904) (ho : off ≤ n) :
    Calls Tryz.prog 150 #[.pointer (some ⟨s, 0, none⟩)] w (SiPost w s a n c T (blkE T n (n - off) off) line bol (moreP T n (blkE T n (n - off) off))) := by
  have HS := hide h
  clear h
  obtain ⟨ee, hee⟩ : ∃ e, blkE T n (n - off) off = e := ⟨_, rfl⟩
  rw [hee]
  have HEE := hide hee
  clear hee
  obtain ⟨mo, hmo⟩ : ∃ m, moreP T n ee = m := ⟨_, rfl⟩
  rw [hmo]
  have HMO := hide hmo
  clear hmo
  go_enter Tryz.func150, Tryz.ntmps150
  go_wp2
  go_loopw [3] (fun _ wr => ∃ i : Nat, off ≤ i ∧ i ≤ n ∧ SC wr s a n c T i line bol ∧ Hid (ee = blkE T n (n - i) i) ∧ Ex (fun k => k = s) w wr) (fun _ wr => offLeft s n wr)
  case atStart => exact ⟨off, Nat.le_refl _, ho, HS.out, hide HEE.out.symm, Ex.refl _ _⟩
  case round =>
    clear HS
    obtain ⟨i, hi, hin, hs, HE, hex⟩ := hrel
    have HS := hide hs
    have HX := hide hex
    have HOL := hide (offLeft_at (n := n) hs.c1)
    clear hs hex
    by_cases hlt : i < n
    · have hlti : (i : Int) < (n : Int) := by omega
      have hltb : decide ((i : Int) < (n : Int)) = true := by simpa using hlt
      have hltn : decide (i < n) = true := by simpa using hlt
      have hi0 : decide ((i : Int) < 0) = false := by simp
      obtain ⟨g, o, ea, cb, hb⟩ := HS.out.bt i hlt
      subst ea
      have HST := hide (show blkE T n (n - i) i = if i < n ∧ blankP (T i) = true then blkE T n (n - (i + 1)) (i + 1) else i by rw [show n - i = n - (i + 1) + 1 by omega, blkE])
      have zS : wr.cell? ⟨s, 0, none⟩ = some (.slice (some ⟨g, o, none⟩) n c) ∧ wr.cell? ⟨s, 1, none⟩ = some (.int .i64 i) ∧ wr.cell? ⟨g, o + i, none⟩ = some (.int .u8 (T i)) := ⟨HS.out.c0, HS.out.c1, cb⟩
      clear cb
      go_upto_region 1 with fail
      refine wp_region_held_drew (S := fun w' => w'.cell? ⟨s, 0, none⟩ = some (.slice (some ⟨g, o, none⟩) n c) ∧ w'.cell? ⟨s, 1, none⟩ = some (.int .i64 i) ∧ w'.cell? ⟨g, o + i, none⟩ = some (.int .u8 (T i))) (by kernel_rfl) zS (fun hHeld => ?_)
      refine wpAnyH_take (i := 0) (v := ?_) rfl (by kernel_rfl) (by kernel_rfl) (by kernel_rfl) (fun _ _ _ h => h) (Or.inl ⟨by rfl, ?_⟩) (by assumption) ?_
      rotate_left
      · (intro w hSw; (try dsimp only at hSw); go_simp; try (with_reducible rfl))
      try simp only [Act.put, List.getElem_toArray, List.getElem_cons_zero, List.getElem_cons_succ, List.setIfInBounds_toArray, List.set_cons_zero, List.set_cons_succ]
      refine wpAnyH_take (i := 1) (v := ?_) rfl (by kernel_rfl) (by kernel_rfl) (by kernel_rfl) (fun _ _ _ h => h) (Or.inl ⟨by rfl, ?_⟩) (by assumption) ?_
      rotate_left
      · (intro w hSw; (try dsimp only at hSw); go_simp; try (with_reducible rfl))
      try simp only [Act.put, List.getElem_toArray, List.getElem_cons_zero, List.getElem_cons_succ, List.setIfInBounds_toArray, List.set_cons_zero, List.set_cons_succ]
      refine wpAnyH_take (i := 2) (v := ?_) rfl (by kernel_rfl) (by kernel_rfl) (by kernel_rfl) (fun _ _ _ h => h) (Or.inl ⟨by rfl, ?_⟩) (by assumption) ?_
      rotate_left
      · (intro w hSw; (try dsimp only at hSw); go_simp; try (with_reducible rfl))
      try simp only [Act.put, List.getElem_toArray, List.getElem_cons_zero, List.getElem_cons_succ, List.setIfInBounds_toArray, List.set_cons_zero, List.set_cons_succ]
      refine wpAnyH_take (i := 3) (v := ?_) rfl (by kernel_rfl) (by kernel_rfl) (by kernel_rfl) (fun _ _ _ h => h) (Or.inl ⟨by rfl, ?_⟩) (by assumption) ?_
      rotate_left
      · (intro w hSw; (try dsimp only at hSw); ((obtain ⟨z1, z2, z3⟩ := hSw)); go_simp; try (with_reducible rfl))
      try simp only [Act.put, List.getElem_toArray, List.getElem_cons_zero, List.getElem_cons_succ, List.setIfInBounds_toArray, List.set_cons_zero, List.set_cons_succ]
      refine wpAnyH_take (i := 4) (v := ?_) rfl (by kernel_rfl) (by kernel_rfl) (by kernel_rfl) (fun _ _ _ h => h) (Or.inl ⟨by rfl, ?_⟩) (by assumption) ?_
      rotate_left
      · (intro w hSw; (try dsimp only at hSw); go_simp; try (with_reducible rfl))
      try simp only [Act.put, List.getElem_toArray, List.getElem_cons_zero, List.getElem_cons_succ, List.setIfInBounds_toArray, List.set_cons_zero, List.set_cons_succ]
      refine wpAnyH_take (i := 5) (v := ?_) rfl (by kernel_rfl) (by kernel_rfl) (by kernel_rfl) (fun _ _ _ h => h) (Or.inl ⟨by rfl, ?_⟩) (by assumption) ?_
      rotate_left
      · (intro w hSw; (try dsimp only at hSw); go_simp; try (with_reducible rfl))
      try simp only [Act.put, List.getElem_toArray, List.getElem_cons_zero, List.getElem_cons_succ, List.setIfInBounds_toArray, List.set_cons_zero, List.set_cons_succ]
      refine wpAnyH_take (i := 6) (v := ?_) rfl (by kernel_rfl) (by kernel_rfl) (by kernel_rfl) (fun _ _ _ h => h) (Or.inl ⟨by rfl, ?_⟩) (by assumption) ?_
      rotate_left
      · (intro w hSw; (try dsimp only at hSw); go_simp; try (with_reducible rfl))
      try simp only [Act.put, List.getElem_toArray, List.getElem_cons_zero, List.getElem_cons_succ, List.setIfInBounds_toArray, List.set_cons_zero, List.set_cons_succ]
      refine wpAnyH_take (i := 7) (v := ?_) rfl (by kernel_rfl) (by kernel_rfl) (by kernel_rfl) (fun _ _ _ h => h) (Or.inl ⟨by rfl, ?_⟩) (by assumption) ?_
      rotate_left
      · (intro w hSw; (try dsimp only at hSw); ((obtain ⟨z1, z2, z3⟩ := hSw)); go_simp; try (with_reducible rfl))
      try simp only [Act.put, List.getElem_toArray, List.getElem_cons_zero, List.getElem_cons_succ, List.setIfInBounds_toArray, List.set_cons_zero, List.set_cons_succ]
      refine wpAnyH_take (i := 8) (v := ?_) rfl (by kernel_rfl) (by kernel_rfl) (by kernel_rfl) (fun _ _ _ h => h) (Or.inl ⟨by rfl, ?_⟩) (by assumption) ?_
      rotate_left
      · (intro w hSw; (try dsimp only at hSw); go_simp; try (with_reducible rfl))
      try simp only [Act.put, List.getElem_toArray, List.getElem_cons_zero, List.getElem_cons_succ, List.setIfInBounds_toArray, List.set_cons_zero, List.set_cons_succ]
      refine wpAnyH_take (i := 9) (v := ?_) rfl (by kernel_rfl) (by kernel_rfl) (by kernel_rfl) (fun _ _ _ h => h) (Or.inl ⟨by rfl, ?_⟩) (by assumption) ?_
      rotate_left
      · (intro w hSw; (try dsimp only at hSw); go_simp; try (with_reducible rfl))
      try simp only [Act.put, List.getElem_toArray, List.getElem_cons_zero, List.getElem_cons_succ, List.setIfInBounds_toArray, List.set_cons_zero, List.set_cons_succ]
      refine wpAnyH_take (i := 10) (v := ?_) rfl (by kernel_rfl) (by kernel_rfl) (by kernel_rfl) (fun _ _ _ h => h) (Or.inl ⟨by rfl, ?_⟩) (by assumption) ?_
      rotate_left
      · (intro w hSw; (try dsimp only at hSw); go_simp; try (with_reducible rfl))
      try simp only [Act.put, List.getElem_toArray, List.getElem_cons_zero, List.getElem_cons_succ, List.setIfInBounds_toArray, List.set_cons_zero, List.set_cons_succ]
      refine wpAnyH_take (i := 11) (v := ?_) rfl (by kernel_rfl) (by kernel_rfl) (by kernel_rfl) (fun _ _ _ h => h) (Or.inl ⟨by rfl, ?_⟩) (by assumption) ?_
      rotate_left
      · (intro w hSw; (try dsimp only at hSw); go_simp; try (with_reducible rfl))
      try simp only [Act.put, List.getElem_toArray, List.getElem_cons_zero, List.getElem_cons_succ, List.setIfInBounds_toArray, List.set_cons_zero, List.set_cons_succ]
      refine wpAnyH_take (i := 12) (v := ?_) rfl (by kernel_rfl) (by kernel_rfl) (by kernel_rfl) (fun _ _ _ h => h) (Or.inl ⟨by rfl, ?_⟩) (by assumption) ?_
      rotate_left
      · (intro w hSw; (try dsimp only at hSw); go_simp; try (with_reducible rfl))
      try simp only [Act.put, List.getElem_toArray, List.getElem_cons_zero, List.getElem_cons_succ, List.setIfInBounds_toArray, List.set_cons_zero, List.set_cons_succ]
      refine wpAnyH_take (i := 13) (v := ?_) rfl (by kernel_rfl) (by kernel_rfl) (by kernel_rfl) (fun _ _ _ h => h) (Or.inl ⟨by rfl, ?_⟩) (by assumption) ?_
      rotate_left
      · (intro w hSw; (try dsimp only at hSw); go_simp; try (with_reducible rfl))
      try simp only [Act.put, List.getElem_toArray, List.getElem_cons_zero, List.getElem_cons_succ, List.setIfInBounds_toArray, List.set_cons_zero, List.set_cons_succ]
      refine wpAnyH_take (i := 14) (v := ?_) rfl (by kernel_rfl) (by kernel_rfl) (by kernel_rfl) (fun _ _ _ h => h) (Or.inl ⟨by rfl, ?_⟩) (by assumption) ?_
      rotate_left
      · (intro w hSw; (try dsimp only at hSw); ((obtain ⟨z1, z2, z3⟩ := hSw)); go_simp; try (with_reducible rfl))
      try simp only [Act.put, List.getElem_toArray, List.getElem_cons_zero, List.getElem_cons_succ, List.setIfInBounds_toArray, List.set_cons_zero, List.set_cons_succ]
      refine wpAnyH_take (i := 15) (v := ?_) rfl (by kernel_rfl) (by kernel_rfl) (by kernel_rfl) (fun _ _ _ h => h) (Or.inl ⟨by rfl, ?_⟩) (by assumption) ?_
      rotate_left
      · (intro w hSw; (try dsimp only at hSw); go_simp; try (with_reducible rfl))
      try simp only [Act.put, List.getElem_toArray, List.getElem_cons_zero, List.getElem_cons_succ, List.setIfInBounds_toArray, List.set_cons_zero, List.set_cons_succ]
      refine wpAnyH_take (i := 16) (v := ?_) rfl (by kernel_rfl) (by kernel_rfl) (by kernel_rfl) (fun _ _ _ h => h) (Or.inl ⟨by rfl, ?_⟩) (by assumption) ?_
      rotate_left
      · (intro w hSw; (try dsimp only at hSw); go_simp; try (with_reducible rfl))
      try simp only [Act.put, List.getElem_toArray, List.getElem_cons_zero, List.getElem_cons_succ, List.setIfInBounds_toArray, List.set_cons_zero, List.set_cons_succ]
      refine wpAnyH_take (i := 17) (v := ?_) rfl (by kernel_rfl) (by kernel_rfl) (by kernel_rfl) (fun _ _ _ h => h) (Or.inl ⟨by rfl, ?_⟩) (by assumption) ?_
      rotate_left
      · (intro w hSw; (try dsimp only at hSw); go_simp; try (with_reducible rfl))
      try simp only [Act.put, List.getElem_toArray, List.getElem_cons_zero, List.getElem_cons_succ, List.setIfInBounds_toArray, List.set_cons_zero, List.set_cons_succ]
      refine wpAnyH_take (i := 18) (v := ?_) rfl (by kernel_rfl) (by kernel_rfl) (by kernel_rfl) (fun _ _ _ h => h) (Or.inl ⟨by rfl, ?_⟩) (by assumption) ?_
      rotate_left
      · (intro w hSw; (try dsimp only at hSw); ((obtain ⟨z1, z2, z3⟩ := hSw)); go_simp; try (with_reducible rfl))
      try simp only [Act.put, List.getElem_toArray, List.getElem_cons_zero, List.getElem_cons_succ, List.setIfInBounds_toArray, List.set_cons_zero, List.set_cons_succ]
      refine wpAnyH_take (i := 19) (v := ?_) rfl (by kernel_rfl) (by kernel_rfl) (by kernel_rfl) (fun _ _ _ h => h) (Or.inl ⟨by rfl, ?_⟩) (by assumption) ?_
      rotate_left
      · (intro w hSw; (try dsimp only at hSw); go_simp; try (with_reducible rfl))
      try simp only [Act.put, List.getElem_toArray, List.getElem_cons_zero, List.getElem_cons_succ, List.setIfInBounds_toArray, List.set_cons_zero, List.set_cons_succ]
      refine wpAnyH_take (i := 20) (v := ?_) rfl (by kernel_rfl) (by kernel_rfl) (by kernel_rfl) (fun _ _ _ h => h) (Or.inl ⟨by rfl, ?_⟩) (by assumption) ?_
      rotate_left
      · (intro w hSw; (try dsimp only at hSw); ((obtain ⟨z1, z2, z3⟩ := hSw)); go_simp; try (with_reducible rfl))
      try simp only [Act.put, List.getElem_toArray, List.getElem_cons_zero, List.getElem_cons_succ, List.setIfInBounds_toArray, List.set_cons_zero, List.set_cons_succ]
      refine wpAnyH_ready (rs := [21]) (by kernel_rfl) (by simp) ?_
      refine (AllReadyH.cons rfl (fun K hK => ?_) AllReadyH.nil)
      · refine step_call_g (by rfl) 152 #[.int .u8 (T i)] (by simp [go_sem]) (isBlank_any _ (T i)) ?_
        rintro e w5 ⟨rfl, hw5⟩
        have zS5 : w5.cell? ⟨s, 0, none⟩ = some (.slice (some ⟨g, o, none⟩) n c) ∧ w5.cell? ⟨s, 1, none⟩ = some (.int .i64 i) ∧ w5.cell? ⟨g, o + i, none⟩ = some (.int .u8 (T i)) := by rw [hw5]; exact zS
        have HS5 := hide (show SC w5 s (some ⟨g, o, none⟩) n c T i line bol from by rw [hw5]; exact HS.out.below ((Below.refl _ _).drew))
        have HX5 := hide (show Ex (fun k => k = s) w w5 from by rw [hw5]; exact HX.out.drew)
        clear hw5
        refine ⟨_, rfl, ?_⟩
        refine hK.out _ _ ?_ (fun hHeld => ?_)
        · (first | with_reducible exact zS5 | with_reducible exact zS | exact zS)
        clear hK K
        try simp only [Act.put, List.getElem_toArray, List.getElem_cons_zero, List.getElem_cons_succ, List.setIfInBounds_toArray, List.set_cons_zero, List.set_cons_succ]
        refine wpAnyH_take (i := 22) (v := ?_) rfl (by kernel_rfl) (by kernel_rfl) (by kernel_rfl) (fun _ _ _ h => h) (Or.inl ⟨by rfl, ?_⟩) (by assumption) ?_
        rotate_left
        · (intro w hSw; (try dsimp only at hSw); go_simp; try (with_reducible rfl))
        try simp only [Act.put, List.getElem_toArray, List.getElem_cons_zero, List.getElem_cons_succ, List.setIfInBounds_toArray, List.set_cons_zero, List.set_cons_succ]
        refine wpAnyH_done (by kernel_rfl) ?_ _
        cases hsp : blankP (T i)
        · have HP := hide (show ee = i by rw [HE.out, HST.out, if_neg (fun z => by rw [hsp] at z; cases z.2)])
          clear hsp HST HE zS zS5
          have c0 := HS5.out.c0
          have c1 := HS5.out.c1
          obtain ⟨g', o', ea, cb, -⟩ := HS5.out.bt i hlt
          cases ea
          go_upto_region 3 with fail
          go_quiet (fail)
          rename_i nq
          have HM := hide (show mo = (T i != 10) by rw [← HMO.out, HP.out]; unfold moreP; rw [hltn, Bool.true_and])
          have HPO := hide (show SiPost w s (some ⟨g, o, none⟩) n c T ee line bol mo (.returned (.bool (T i != 10))) (w5.drewN nq) from ⟨by rw [HM.out], by rw [HP.out]; exact HS5.out.below (belN _ _), HX5.out.drewN _⟩)
          go_wp2
          exact bodyPost_ret (v := .bool (T i != 10)) (by simp [results, Tryz.results150, go_sem]) rfl HPO.out
        · have HP := hide (show ee = blkE T n (n - (i + 1)) (i + 1) by rw [HE.out, HST.out, if_pos ⟨hlt, hsp⟩])
          clear hsp HST HE zS zS5
          have c1 := HS5.out.c1
          have f1 := HS5.out.f
          have hwi : IntKind.i64.wrap ((i : Int) + 1) = (i : Int) + 1 := by rw [IntKind.wrap_i64]; omega
          have HS2 := hide (HS5.out.setOffI (i + 1) (u := (i : Int) + 1) (by omega))
          have HX2 := hide (HX5.out.trans HS2.out.2)
          have HO2 := hide (offLeft_at (n := n) HS2.out.1.c1)
          clear HS HX
          go_wp2
          go_roundw
          case rel => exact ⟨i + 1, by omega, by omega, HS2.out.1, HP, HX2.out⟩
          case measure => rw [HOL.out, HO2.out]; omega
    · obtain rfl : i = n := by omega
      have hltb : decide ((i : Int) < (i : Int)) = false := by simp
      have hltn : decide (i < i) = false := by simp
      have HP := hide (show ee = i by rw [HE.out, Nat.sub_self]; rfl)
      have HM := hide (show mo = false by rw [← HMO.out, HP.out]; unfold moreP; simp)
      have c0 := HS.out.c0
      have c1 := HS.out.c1
      clear HE
      go_upto_region 1 with fail
      go_quiet (fail)
      rename_i nq
      replace HS := hide (HS.out.below (belN _ nq))
      replace HX := hide (HX.out.drewN nq)
      clear c0 c1
      generalize World.drewN _ nq = w2 at *
      have c0 := HS.out.c0
      have c1 := HS.out.c1
      go_upto_region 3 with fail
      go_quiet (fail)
      rename_i nq
      have HPO := hide (show SiPost w s a i c T ee line bol mo (.returned (.bool false)) (w2.drewN nq) from ⟨by rw [HM.out], by rw [HP.out]; exact HS.out.below (belN _ _), HX.out.drewN _⟩)
      go_wp2
      exact bodyPost_ret (v := .bool false) (by simp [results, Tryz.results150, go_sem]) rfl HPO.out
end Go.Proofs.Qxb6500773aGreat
