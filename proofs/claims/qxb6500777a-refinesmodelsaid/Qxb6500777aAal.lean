import Derived.Test.Qxb6500777aAdP
namespace Go.Proofs.Qxb6500777a
open Go.RowKit

/-- Contacts in block p. -/
def CA (w : World) (p : Nat) (C : List Ctc) : Prop := ∀ (i : Nat) (c : Ctc), C[i]? = some c → ∀ (j : Nat) (v : Value), c.vals[j]? = some v → w.cell? ⟨p, i * 9 + j, none⟩ = some v
theorem CA.keep {w w' : World} {p : Nat} {C : List Ctc} (h : CA w p C) {S : Nat → Prop} (e : Ex S w w') (hs : ¬ S p) : CA w' p C := fun i c hc j v hv => e.cell hs (h i c hc j v hv)
theorem CA.below {w w' : World} {p : Nat} {C : List Ctc} (h : CA w p C) (hb : Below w.heap.size w w') : CA w' p C := h.keep (Ex.of (S := fun _ => False) hb) (fun e => e)
theorem c14 {w : World} {p : Nat} {C : List Ctc} (h : CA w p C) {i e : Nat} {ca ce : Ctc} (hi : C[i]? = some ca) (he : C[e]? = some ce) : w.cell? ⟨p, i * 9 + 2, none⟩ = some (.int .i64 ca.seen.num) ∧ w.cell? ⟨p, i * 9 + 3, none⟩ = some (.int .i64 ca.seen.x) ∧ w.cell? ⟨p, i * 9 + 4, none⟩ = some (.int .i64 ca.seen.y) ∧ w.cell? ⟨p, i * 9 + 5, none⟩ = some (.int .i64 ca.seen.co) ∧ w.cell? ⟨p, i * 9 + 6, none⟩ = some (.int .i64 ca.seen.sp) ∧ w.cell? ⟨p, i * 9 + 7, none⟩ = some (.int .i64 ca.seen.st) ∧ w.cell? ⟨p, i * 9 + 8, none⟩ = some (.int .i64 ca.seen.ag) ∧ w.cell? ⟨p, e * 9 + 2, none⟩ = some (.int .i64 ce.seen.num) ∧ w.cell? ⟨p, e * 9 + 3, none⟩ = some (.int .i64 ce.seen.x) ∧ w.cell? ⟨p, e * 9 + 4, none⟩ = some (.int .i64 ce.seen.y) ∧ w.cell? ⟨p, e * 9 + 5, none⟩ = some (.int .i64 ce.seen.co) ∧ w.cell? ⟨p, e * 9 + 6, none⟩ = some (.int .i64 ce.seen.sp) ∧ w.cell? ⟨p, e * 9 + 7, none⟩ = some (.int .i64 ce.seen.st) ∧ w.cell? ⟨p, e * 9 + 8, none⟩ = some (.int .i64 ce.seen.ag) :=
  ⟨h i ca hi 2 _ rfl, h i ca hi 3 _ rfl, h i ca hi 4 _ rfl, h i ca hi 5 _ rfl, h i ca hi 6 _ rfl, h i ca hi 7 _ rfl, h i ca hi 8 _ rfl, h e ce he 2 _ rfl, h e ce he 3 _ rfl, h e ce he 4 _ rfl, h e ce he 5 _ rfl, h e ce he 6 _ rfl, h e ce he 7 _ rfl, h e ce he 8 _ rfl⟩
def AaPost (w : World) (b o : Nat) (C : List Ctc) (T0 : Tbl) (e : Ending) (w' : World) : Prop := ∃ T, e = .returned (.tuple #[]) ∧ TA w' b o T ∧ TInv T ∧ AdmAll C 0 T0 T ∧ T.next ≤ T0.next + 112 ∧ Fr b o 754 w w'
/-- Between the groups. -/
structure AaI (w : World) (b o : Nat) (C : List Ctc) (T0 : Tbl) (i : Nat) (T : Tbl) (wr : World) : Prop where
  ta : TA wr b o T
  ad : AdI C i T
  up : ∀ T', AdmAll C i T T' → AdmAll C 0 T0 T'
  nx : T.next ≤ T0.next + i
  fr : Fr b o 754 w wr
set_option linter.unusedSimpArgs false in
set_option maxRecDepth 100000 in
set_option maxHeartbeats 8000000 in
/-- tracks.table.admitAll -/
theorem admitAll_any (w : World) (b o p n cp : Nat) (C : List Ctc) (T0 : Tbl) (h : TA w b o T0) (hC : CA w p C) (hp : p ≠ b) (hn : n = C.length) (hok : CsOk C) (hi0 : AdI C 0 T0) :
    Calls Try.prog 63 #[.pointer (some ⟨b, o, none⟩), .slice (some ⟨p, 0, none⟩) n cp] w (AaPost w b o C T0) := by
  have hnl : n ≤ 112 := by rw [hn]; exact hok.len
  have HN := hide hn
  have HCA := hide hC
  have HOK := hide hok
  have HI := hide (show AaI w b o C T0 0 T0 w from ⟨h, hi0, fun _ z => z, by omega, Fr.refl _ _ _ _⟩)
  clear h hC hn hok hi0
  go_enter Try.func63, Try.ntmps63
  go_wp2
  go_loopw [4] (fun s4 wr => ∃ (i : Nat) (T : Tbl), i ≤ n ∧ s4 = .int .i64 i ∧ AaI w b o C T0 i T wr) (fun s4 _ => n - (intOf s4).toNat)
  case atStart => exact ⟨0, T0, by omega, rfl, HI.out⟩
  case round =>
    clear HI
    obtain ⟨i, T, hi, rfl, hI⟩ := hrel
    have HI := hide hI
    clear hI
    by_cases hin : i < n
    · have hini : (i : Int) < (n : Int) := by omega
      have hil : i < C.length := by have := HN.out; omega
      obtain ⟨ca, hca⟩ : ∃ c, C[i]? = some c := ⟨_, List.getElem?_eq_getElem hil⟩
      have HCa := hide hca
      clear hca
      go_wp2
      go_loopw [5] (fun s5 wx => ∃ e : Nat, i < e ∧ e ≤ n ∧ s5 = .int .i64 e ∧ Hid (∀ (j : Nat) (c : Ctc), i < j → j < e → C[j]? = some c → beforeP ca.seen c.seen = false) ∧ AaI w b o C T0 i T wx) (fun s5 _ => n - (intOf s5).toNat)
      case atStart => exact ⟨i + 1, by omega, by omega, by simp, hide fun j c h1 h2 => by omega, HI.out⟩
      case round =>
        clear HI
        obtain ⟨e, hie, hen, rfl, HS, hI⟩ := hrel
        have HI := hide hI
        clear hI
        by_cases hel : e < n
        · have heli : (e : Int) < (n : Int) := by omega
          obtain ⟨ce, hce⟩ : ∃ c, C[e]? = some c := ⟨_, List.getElem?_eq_getElem (by have := HN.out; omega)⟩
          have HCe := hide hce
          have zS := c14 (HCA.out.keep HI.out.fr.ex hp) HCa.out HCe.out
          have cb := fun w => hide (before_any w ca.seen ce.seen)
          clear hce
          cases hbf : beforeP ca.seen ce.seen
          · rw [hbf] at cb
            have HBF := hide hbf
            clear hbf
            go_upto_region 3 with fail
            refine wp_region_held_drew (S := fun w' => w'.cell? ⟨p, i * 9 + 2, none⟩ = some (.int .i64 ca.seen.num) ∧ w'.cell? ⟨p, i * 9 + 3, none⟩ = some (.int .i64 ca.seen.x) ∧ w'.cell? ⟨p, i * 9 + 4, none⟩ = some (.int .i64 ca.seen.y) ∧ w'.cell? ⟨p, i * 9 + 5, none⟩ = some (.int .i64 ca.seen.co) ∧ w'.cell? ⟨p, i * 9 + 6, none⟩ = some (.int .i64 ca.seen.sp) ∧ w'.cell? ⟨p, i * 9 + 7, none⟩ = some (.int .i64 ca.seen.st) ∧ w'.cell? ⟨p, i * 9 + 8, none⟩ = some (.int .i64 ca.seen.ag) ∧ w'.cell? ⟨p, e * 9 + 2, none⟩ = some (.int .i64 ce.seen.num) ∧ w'.cell? ⟨p, e * 9 + 3, none⟩ = some (.int .i64 ce.seen.x) ∧ w'.cell? ⟨p, e * 9 + 4, none⟩ = some (.int .i64 ce.seen.y) ∧ w'.cell? ⟨p, e * 9 + 5, none⟩ = some (.int .i64 ce.seen.co) ∧ w'.cell? ⟨p, e * 9 + 6, none⟩ = some (.int .i64 ce.seen.sp) ∧ w'.cell? ⟨p, e * 9 + 7, none⟩ = some (.int .i64 ce.seen.st) ∧ w'.cell? ⟨p, e * 9 + 8, none⟩ = some (.int .i64 ce.seen.ag)) (by kernel_rfl) zS (fun hHeld => ?_)
            refine wpAnyH_take (i := 0) (v := ?_) rfl (by kernel_rfl) (by kernel_rfl) (by kernel_rfl) (fun _ _ _ h => h) (Or.inl ⟨by rfl, ?_⟩) (by assumption) ?_
            rotate_left
            · (intro w hSw; (try dsimp only at hSw); go_simp; try (with_reducible rfl))
            try simp only [Act.put, List.getElem_toArray, List.getElem_cons_zero, List.getElem_cons_succ, List.setIfInBounds_toArray, List.set_cons_zero, List.set_cons_succ]
            refine wpAnyH_take (i := 1) (v := ?_) rfl (by kernel_rfl) (by kernel_rfl) (by kernel_rfl) (fun _ _ _ h => h) (Or.inl ⟨by rfl, ?_⟩) (by assumption) ?_
            rotate_left
            · (intro w hSw; (try dsimp only at hSw); go_simp; try (with_reducible rfl))
            try simp only [Act.put, List.getElem_toArray, List.getElem_cons_zero, List.getElem_cons_succ, List.setIfInBounds_toArray, List.set_cons_zero, List.set_cons_succ]
            refine wpAnyH_take (i := 2) (v := ?_) rfl (by kernel_rfl) (by kernel_rfl) (by kernel_rfl) (fun _ _ _ h => h) (Or.inl ⟨by rfl, ?_⟩) (by assumption) ?_
            rotate_left
            · (intro w hSw; (try dsimp only at hSw); go_simp; try (with_reducible rfl))
            try simp only [Act.put, List.getElem_toArray, List.getElem_cons_zero, List.getElem_cons_succ, List.setIfInBounds_toArray, List.set_cons_zero, List.set_cons_succ]
            refine wpAnyH_take (i := 3) (v := ?_) rfl (by kernel_rfl) (by kernel_rfl) (by kernel_rfl) (fun _ _ _ h => h) (Or.inl ⟨by rfl, ?_⟩) (by assumption) ?_
            rotate_left
            · (intro w hSw; (try dsimp only at hSw); go_simp; try (with_reducible rfl))
            try simp only [Act.put, List.getElem_toArray, List.getElem_cons_zero, List.getElem_cons_succ, List.setIfInBounds_toArray, List.set_cons_zero, List.set_cons_succ]
            refine wpAnyH_take (i := 4) (v := ?_) rfl (by kernel_rfl) (by kernel_rfl) (by kernel_rfl) (fun _ _ _ h => h) (Or.inl ⟨by rfl, ?_⟩) (by assumption) ?_
            rotate_left
            · (intro w hSw; (try dsimp only at hSw); go_simp; try (with_reducible rfl))
            try simp only [Act.put, List.getElem_toArray, List.getElem_cons_zero, List.getElem_cons_succ, List.setIfInBounds_toArray, List.set_cons_zero, List.set_cons_succ]
            refine wpAnyH_take (i := 5) (v := ?_) rfl (by kernel_rfl) (by kernel_rfl) (by kernel_rfl) (fun _ _ _ h => h) (Or.inl ⟨by rfl, ?_⟩) (by assumption) ?_
            rotate_left
            · (intro w hSw; (try dsimp only at hSw); go_simp; try (with_reducible rfl))
            try simp only [Act.put, List.getElem_toArray, List.getElem_cons_zero, List.getElem_cons_succ, List.setIfInBounds_toArray, List.set_cons_zero, List.set_cons_succ]
            refine wpAnyH_take (i := 6) (v := ?_) rfl (by kernel_rfl) (by kernel_rfl) (by kernel_rfl) (fun _ _ _ h => h) (Or.inl ⟨by rfl, ?_⟩) (by assumption) ?_
            rotate_left
            · (intro w hSw; (try dsimp only at hSw); go_simp; try (with_reducible rfl))
            try simp only [Act.put, List.getElem_toArray, List.getElem_cons_zero, List.getElem_cons_succ, List.setIfInBounds_toArray, List.set_cons_zero, List.set_cons_succ]
            refine wpAnyH_take (i := 7) (v := ?_) rfl (by kernel_rfl) (by kernel_rfl) (by kernel_rfl) (fun _ _ _ h => h) (Or.inl ⟨by rfl, ?_⟩) (by assumption) ?_
            rotate_left
            · (intro w hSw; (try dsimp only at hSw); go_simp; try (with_reducible rfl))
            try simp only [Act.put, List.getElem_toArray, List.getElem_cons_zero, List.getElem_cons_succ, List.setIfInBounds_toArray, List.set_cons_zero, List.set_cons_succ]
            refine wpAnyH_take (i := 8) (v := ?_) rfl (by kernel_rfl) (by kernel_rfl) (by kernel_rfl) (fun _ _ _ h => h) (Or.inl ⟨by rfl, ?_⟩) (by assumption) ?_
            rotate_left
            · (intro w hSw; (try dsimp only at hSw); go_simp; try (with_reducible rfl))
            try simp only [Act.put, List.getElem_toArray, List.getElem_cons_zero, List.getElem_cons_succ, List.setIfInBounds_toArray, List.set_cons_zero, List.set_cons_succ]
            refine wpAnyH_take (i := 9) (v := ?_) rfl (by kernel_rfl) (by kernel_rfl) (by kernel_rfl) (fun _ _ _ h => h) (Or.inl ⟨by rfl, ?_⟩) (by assumption) ?_
            rotate_left
            · (intro w hSw; (try dsimp only at hSw); go_simp; try (with_reducible rfl))
            try simp only [Act.put, List.getElem_toArray, List.getElem_cons_zero, List.getElem_cons_succ, List.setIfInBounds_toArray, List.set_cons_zero, List.set_cons_succ]
            refine wpAnyH_take (i := 10) (v := ?_) rfl (by kernel_rfl) (by kernel_rfl) (by kernel_rfl) (fun _ _ _ h => h) (Or.inl ⟨by rfl, ?_⟩) (by assumption) ?_
            rotate_left
            · (intro w hSw; (try dsimp only at hSw); go_simp; try (with_reducible rfl))
            try simp only [Act.put, List.getElem_toArray, List.getElem_cons_zero, List.getElem_cons_succ, List.setIfInBounds_toArray, List.set_cons_zero, List.set_cons_succ]
            refine wpAnyH_take (i := 11) (v := ?_) rfl (by kernel_rfl) (by kernel_rfl) (by kernel_rfl) (fun _ _ _ h => h) (Or.inl ⟨by rfl, ?_⟩) (by assumption) ?_
            rotate_left
            · (intro w hSw; (try dsimp only at hSw); go_simp; try (with_reducible rfl))
            try simp only [Act.put, List.getElem_toArray, List.getElem_cons_zero, List.getElem_cons_succ, List.setIfInBounds_toArray, List.set_cons_zero, List.set_cons_succ]
            refine wpAnyH_take (i := 12) (v := ?_) rfl (by kernel_rfl) (by kernel_rfl) (by kernel_rfl) (fun _ _ _ h => h) (Or.inl ⟨by rfl, ?_⟩) (by assumption) ?_
            rotate_left
            · (intro w hSw; (try dsimp only at hSw); go_simp; try (with_reducible rfl))
            try simp only [Act.put, List.getElem_toArray, List.getElem_cons_zero, List.getElem_cons_succ, List.setIfInBounds_toArray, List.set_cons_zero, List.set_cons_succ]
            refine wpAnyH_take (i := 13) (v := ?_) rfl (by kernel_rfl) (by kernel_rfl) (by kernel_rfl) (fun _ _ _ h => h) (Or.inl ⟨by rfl, ?_⟩) (by assumption) ?_
            rotate_left
            · (intro w hSw; (try dsimp only at hSw); go_simp; try (with_reducible rfl))
            try simp only [Act.put, List.getElem_toArray, List.getElem_cons_zero, List.getElem_cons_succ, List.setIfInBounds_toArray, List.set_cons_zero, List.set_cons_succ]
            refine wpAnyH_take (i := 14) (v := ?_) rfl (by kernel_rfl) (by kernel_rfl) (by kernel_rfl) (fun _ _ _ h => h) (Or.inl ⟨by rfl, ?_⟩) (by assumption) ?_
            rotate_left
            · (intro w hSw; (try dsimp only at hSw); go_simp; try (with_reducible rfl))
            try simp only [Act.put, List.getElem_toArray, List.getElem_cons_zero, List.getElem_cons_succ, List.setIfInBounds_toArray, List.set_cons_zero, List.set_cons_succ]
            refine wpAnyH_ready (rs := [15]) (by kernel_rfl) (by simp) ?_
            refine (AllReadyH.cons rfl (fun K hK => ?_) AllReadyH.nil)
            · refine step_call_g (by rfl) 62 #[.agg #[.int .i64 ca.seen.num, .int .i64 ca.seen.x, .int .i64 ca.seen.y, .int .i64 ca.seen.co, .int .i64 ca.seen.sp, .int .i64 ca.seen.st, .int .i64 ca.seen.ag], .agg #[.int .i64 ce.seen.num, .int .i64 ce.seen.x, .int .i64 ce.seen.y, .int .i64 ce.seen.co, .int .i64 ce.seen.sp, .int .i64 ce.seen.st, .int .i64 ce.seen.ag]] (by simp [go_sem]) (cb _).out ?_
              rintro en w2 ⟨rfl, b2⟩
              replace b2 := of_drew b2
              have HI2 := hide (show AaI w b o C T0 i T w2 from ⟨HI.out.ta.below b2, HI.out.ad, HI.out.up, HI.out.nx, HI.out.fr.trans (Fr.tab b2 HI.out.ta.lt)⟩)
              have zS2 := c14 (HCA.out.keep HI2.out.fr.ex hp) HCa.out HCe.out
              clear b2
              refine ⟨_, rfl, ?_⟩
              refine hK.out _ _ ?_ (fun hHeld => ?_)
              · (first | with_reducible exact zS2 | exact zS)
              clear hK K
              try simp only [Act.put, List.getElem_toArray, List.getElem_cons_zero, List.getElem_cons_succ, List.setIfInBounds_toArray, List.set_cons_zero, List.set_cons_succ]
              refine wpAnyH_take (i := 16) (v := ?_) rfl (by kernel_rfl) (by kernel_rfl) (by kernel_rfl) (fun _ _ _ h => h) (Or.inl ⟨by rfl, ?_⟩) (by assumption) ?_
              rotate_left
              · (intro w hSw; (try dsimp only at hSw); go_simp; try (with_reducible rfl))
              try simp only [Act.put, List.getElem_toArray, List.getElem_cons_zero, List.getElem_cons_succ, List.setIfInBounds_toArray, List.set_cons_zero, List.set_cons_succ]
              refine wpAnyH_take (i := 17) (v := ?_) rfl (by kernel_rfl) (by kernel_rfl) (by kernel_rfl) (fun _ _ _ h => h) (Or.inl ⟨by rfl, ?_⟩) (by assumption) ?_
              rotate_left
              · (intro w hSw; (try dsimp only at hSw); go_simp; try (with_reducible rfl))
              try simp only [Act.put, List.getElem_toArray, List.getElem_cons_zero, List.getElem_cons_succ, List.setIfInBounds_toArray, List.set_cons_zero, List.set_cons_succ]
              refine wpAnyH_done (by kernel_rfl) ?_ _
              clear zS zS2 cb
              go_wp2
              go_roundw
              case rel =>
                refine ⟨e + 1, by omega, by omega, by simp, hide fun j c h1 h2 hc => ?_, HI2.out⟩
                rcases (by omega : j < e ∨ j = e) with z | rfl
                · exact HS.out j c h1 z hc
                · rw [HCe.out] at hc; cases hc; exact HBF.out
              case measure => simp [intOf]; omega
          · rw [hbf] at cb
            have HEND := hide (show IsEnd C i e from ⟨hie, by have := HN.out; omega, fun j a c h1 h2 ha hc => by rw [HCa.out] at ha; cases ha; exact HS.out j c h1 h2 hc, fun _ a c ha hc => by rw [HCa.out] at ha; rw [HCe.out] at hc; cases ha; cases hc; exact hbf⟩)
            clear hbf
            go_upto_region 3 with fail
            refine wp_region_held_drew (S := fun w' => w'.cell? ⟨p, i * 9 + 2, none⟩ = some (.int .i64 ca.seen.num) ∧ w'.cell? ⟨p, i * 9 + 3, none⟩ = some (.int .i64 ca.seen.x) ∧ w'.cell? ⟨p, i * 9 + 4, none⟩ = some (.int .i64 ca.seen.y) ∧ w'.cell? ⟨p, i * 9 + 5, none⟩ = some (.int .i64 ca.seen.co) ∧ w'.cell? ⟨p, i * 9 + 6, none⟩ = some (.int .i64 ca.seen.sp) ∧ w'.cell? ⟨p, i * 9 + 7, none⟩ = some (.int .i64 ca.seen.st) ∧ w'.cell? ⟨p, i * 9 + 8, none⟩ = some (.int .i64 ca.seen.ag) ∧ w'.cell? ⟨p, e * 9 + 2, none⟩ = some (.int .i64 ce.seen.num) ∧ w'.cell? ⟨p, e * 9 + 3, none⟩ = some (.int .i64 ce.seen.x) ∧ w'.cell? ⟨p, e * 9 + 4, none⟩ = some (.int .i64 ce.seen.y) ∧ w'.cell? ⟨p, e * 9 + 5, none⟩ = some (.int .i64 ce.seen.co) ∧ w'.cell? ⟨p, e * 9 + 6, none⟩ = some (.int .i64 ce.seen.sp) ∧ w'.cell? ⟨p, e * 9 + 7, none⟩ = some (.int .i64 ce.seen.st) ∧ w'.cell? ⟨p, e * 9 + 8, none⟩ = some (.int .i64 ce.seen.ag)) (by kernel_rfl) zS (fun hHeld => ?_)
            refine wpAnyH_take (i := 0) (v := ?_) rfl (by kernel_rfl) (by kernel_rfl) (by kernel_rfl) (fun _ _ _ h => h) (Or.inl ⟨by rfl, ?_⟩) (by assumption) ?_
            rotate_left
            · (intro w hSw; (try dsimp only at hSw); go_simp; try (with_reducible rfl))
            try simp only [Act.put, List.getElem_toArray, List.getElem_cons_zero, List.getElem_cons_succ, List.setIfInBounds_toArray, List.set_cons_zero, List.set_cons_succ]
            refine wpAnyH_take (i := 1) (v := ?_) rfl (by kernel_rfl) (by kernel_rfl) (by kernel_rfl) (fun _ _ _ h => h) (Or.inl ⟨by rfl, ?_⟩) (by assumption) ?_
            rotate_left
            · (intro w hSw; (try dsimp only at hSw); go_simp; try (with_reducible rfl))
            try simp only [Act.put, List.getElem_toArray, List.getElem_cons_zero, List.getElem_cons_succ, List.setIfInBounds_toArray, List.set_cons_zero, List.set_cons_succ]
            refine wpAnyH_take (i := 2) (v := ?_) rfl (by kernel_rfl) (by kernel_rfl) (by kernel_rfl) (fun _ _ _ h => h) (Or.inl ⟨by rfl, ?_⟩) (by assumption) ?_
            rotate_left
            · (intro w hSw; (try dsimp only at hSw); go_simp; try (with_reducible rfl))
            try simp only [Act.put, List.getElem_toArray, List.getElem_cons_zero, List.getElem_cons_succ, List.setIfInBounds_toArray, List.set_cons_zero, List.set_cons_succ]
            refine wpAnyH_take (i := 3) (v := ?_) rfl (by kernel_rfl) (by kernel_rfl) (by kernel_rfl) (fun _ _ _ h => h) (Or.inl ⟨by rfl, ?_⟩) (by assumption) ?_
            rotate_left
            · (intro w hSw; (try dsimp only at hSw); go_simp; try (with_reducible rfl))
            try simp only [Act.put, List.getElem_toArray, List.getElem_cons_zero, List.getElem_cons_succ, List.setIfInBounds_toArray, List.set_cons_zero, List.set_cons_succ]
            refine wpAnyH_take (i := 4) (v := ?_) rfl (by kernel_rfl) (by kernel_rfl) (by kernel_rfl) (fun _ _ _ h => h) (Or.inl ⟨by rfl, ?_⟩) (by assumption) ?_
            rotate_left
            · (intro w hSw; (try dsimp only at hSw); go_simp; try (with_reducible rfl))
            try simp only [Act.put, List.getElem_toArray, List.getElem_cons_zero, List.getElem_cons_succ, List.setIfInBounds_toArray, List.set_cons_zero, List.set_cons_succ]
            refine wpAnyH_take (i := 5) (v := ?_) rfl (by kernel_rfl) (by kernel_rfl) (by kernel_rfl) (fun _ _ _ h => h) (Or.inl ⟨by rfl, ?_⟩) (by assumption) ?_
            rotate_left
            · (intro w hSw; (try dsimp only at hSw); go_simp; try (with_reducible rfl))
            try simp only [Act.put, List.getElem_toArray, List.getElem_cons_zero, List.getElem_cons_succ, List.setIfInBounds_toArray, List.set_cons_zero, List.set_cons_succ]
            refine wpAnyH_take (i := 6) (v := ?_) rfl (by kernel_rfl) (by kernel_rfl) (by kernel_rfl) (fun _ _ _ h => h) (Or.inl ⟨by rfl, ?_⟩) (by assumption) ?_
            rotate_left
            · (intro w hSw; (try dsimp only at hSw); go_simp; try (with_reducible rfl))
            try simp only [Act.put, List.getElem_toArray, List.getElem_cons_zero, List.getElem_cons_succ, List.setIfInBounds_toArray, List.set_cons_zero, List.set_cons_succ]
            refine wpAnyH_take (i := 7) (v := ?_) rfl (by kernel_rfl) (by kernel_rfl) (by kernel_rfl) (fun _ _ _ h => h) (Or.inl ⟨by rfl, ?_⟩) (by assumption) ?_
            rotate_left
            · (intro w hSw; (try dsimp only at hSw); go_simp; try (with_reducible rfl))
            try simp only [Act.put, List.getElem_toArray, List.getElem_cons_zero, List.getElem_cons_succ, List.setIfInBounds_toArray, List.set_cons_zero, List.set_cons_succ]
            refine wpAnyH_take (i := 8) (v := ?_) rfl (by kernel_rfl) (by kernel_rfl) (by kernel_rfl) (fun _ _ _ h => h) (Or.inl ⟨by rfl, ?_⟩) (by assumption) ?_
            rotate_left
            · (intro w hSw; (try dsimp only at hSw); go_simp; try (with_reducible rfl))
            try simp only [Act.put, List.getElem_toArray, List.getElem_cons_zero, List.getElem_cons_succ, List.setIfInBounds_toArray, List.set_cons_zero, List.set_cons_succ]
            refine wpAnyH_take (i := 9) (v := ?_) rfl (by kernel_rfl) (by kernel_rfl) (by kernel_rfl) (fun _ _ _ h => h) (Or.inl ⟨by rfl, ?_⟩) (by assumption) ?_
            rotate_left
            · (intro w hSw; (try dsimp only at hSw); go_simp; try (with_reducible rfl))
            try simp only [Act.put, List.getElem_toArray, List.getElem_cons_zero, List.getElem_cons_succ, List.setIfInBounds_toArray, List.set_cons_zero, List.set_cons_succ]
            refine wpAnyH_take (i := 10) (v := ?_) rfl (by kernel_rfl) (by kernel_rfl) (by kernel_rfl) (fun _ _ _ h => h) (Or.inl ⟨by rfl, ?_⟩) (by assumption) ?_
            rotate_left
            · (intro w hSw; (try dsimp only at hSw); go_simp; try (with_reducible rfl))
            try simp only [Act.put, List.getElem_toArray, List.getElem_cons_zero, List.getElem_cons_succ, List.setIfInBounds_toArray, List.set_cons_zero, List.set_cons_succ]
            refine wpAnyH_take (i := 11) (v := ?_) rfl (by kernel_rfl) (by kernel_rfl) (by kernel_rfl) (fun _ _ _ h => h) (Or.inl ⟨by rfl, ?_⟩) (by assumption) ?_
            rotate_left
            · (intro w hSw; (try dsimp only at hSw); go_simp; try (with_reducible rfl))
            try simp only [Act.put, List.getElem_toArray, List.getElem_cons_zero, List.getElem_cons_succ, List.setIfInBounds_toArray, List.set_cons_zero, List.set_cons_succ]
            refine wpAnyH_take (i := 12) (v := ?_) rfl (by kernel_rfl) (by kernel_rfl) (by kernel_rfl) (fun _ _ _ h => h) (Or.inl ⟨by rfl, ?_⟩) (by assumption) ?_
            rotate_left
            · (intro w hSw; (try dsimp only at hSw); go_simp; try (with_reducible rfl))
            try simp only [Act.put, List.getElem_toArray, List.getElem_cons_zero, List.getElem_cons_succ, List.setIfInBounds_toArray, List.set_cons_zero, List.set_cons_succ]
            refine wpAnyH_take (i := 13) (v := ?_) rfl (by kernel_rfl) (by kernel_rfl) (by kernel_rfl) (fun _ _ _ h => h) (Or.inl ⟨by rfl, ?_⟩) (by assumption) ?_
            rotate_left
            · (intro w hSw; (try dsimp only at hSw); go_simp; try (with_reducible rfl))
            try simp only [Act.put, List.getElem_toArray, List.getElem_cons_zero, List.getElem_cons_succ, List.setIfInBounds_toArray, List.set_cons_zero, List.set_cons_succ]
            refine wpAnyH_take (i := 14) (v := ?_) rfl (by kernel_rfl) (by kernel_rfl) (by kernel_rfl) (fun _ _ _ h => h) (Or.inl ⟨by rfl, ?_⟩) (by assumption) ?_
            rotate_left
            · (intro w hSw; (try dsimp only at hSw); go_simp; try (with_reducible rfl))
            try simp only [Act.put, List.getElem_toArray, List.getElem_cons_zero, List.getElem_cons_succ, List.setIfInBounds_toArray, List.set_cons_zero, List.set_cons_succ]
            refine wpAnyH_ready (rs := [15]) (by kernel_rfl) (by simp) ?_
            refine (AllReadyH.cons rfl (fun K hK => ?_) AllReadyH.nil)
            · refine step_call_g (by rfl) 62 #[.agg #[.int .i64 ca.seen.num, .int .i64 ca.seen.x, .int .i64 ca.seen.y, .int .i64 ca.seen.co, .int .i64 ca.seen.sp, .int .i64 ca.seen.st, .int .i64 ca.seen.ag], .agg #[.int .i64 ce.seen.num, .int .i64 ce.seen.x, .int .i64 ce.seen.y, .int .i64 ce.seen.co, .int .i64 ce.seen.sp, .int .i64 ce.seen.st, .int .i64 ce.seen.ag]] (by simp [go_sem]) (cb _).out ?_
              rintro en w2 ⟨rfl, b2⟩
              replace b2 := of_drew b2
              have HI2 := hide (show AaI w b o C T0 i T w2 from ⟨HI.out.ta.below b2, HI.out.ad, HI.out.up, HI.out.nx, HI.out.fr.trans (Fr.tab b2 HI.out.ta.lt)⟩)
              have zS2 := c14 (HCA.out.keep HI2.out.fr.ex hp) HCa.out HCe.out
              clear b2
              refine ⟨_, rfl, ?_⟩
              refine hK.out _ _ ?_ (fun hHeld => ?_)
              · (first | with_reducible exact zS2 | exact zS)
              clear hK K
              try simp only [Act.put, List.getElem_toArray, List.getElem_cons_zero, List.getElem_cons_succ, List.setIfInBounds_toArray, List.set_cons_zero, List.set_cons_succ]
              refine wpAnyH_take (i := 16) (v := ?_) rfl (by kernel_rfl) (by kernel_rfl) (by kernel_rfl) (fun _ _ _ h => h) (Or.inl ⟨by rfl, ?_⟩) (by assumption) ?_
              rotate_left
              · (intro w hSw; (try dsimp only at hSw); go_simp; try (with_reducible rfl))
              try simp only [Act.put, List.getElem_toArray, List.getElem_cons_zero, List.getElem_cons_succ, List.setIfInBounds_toArray, List.set_cons_zero, List.set_cons_succ]
              refine wpAnyH_take (i := 17) (v := ?_) rfl (by kernel_rfl) (by kernel_rfl) (by kernel_rfl) (fun _ _ _ h => h) (Or.inl ⟨by rfl, ?_⟩) (by assumption) ?_
              rotate_left
              · (intro w hSw; (try dsimp only at hSw); go_simp; try (with_reducible rfl))
              try simp only [Act.put, List.getElem_toArray, List.getElem_cons_zero, List.getElem_cons_succ, List.setIfInBounds_toArray, List.set_cons_zero, List.set_cons_succ]
              refine wpAnyH_done (by kernel_rfl) ?_ _
              clear zS zS2 cb
              replace HI := HI2
              clear HI2
              have hgi : IntKind.i64.wrap ((e : Int) - (i : Int)) = (e : Int) - (i : Int) := by rw [IntKind.wrap_i64]; omega
              by_cases hbig : e - i ≤ 64
              · have hbigi : (e : Int) - (i : Int) ≤ 64 := by omega
                go_upto_region 6 with fail
                clear hbigi
                go_loopw [] (fun wx => ∃ T1 : Tbl, TA wx b o T1 ∧ AdI C i T1 ∧ Hid (∀ T', Room ((e - i : Nat) : Int) T1 T' → Room ((e - i : Nat) : Int) T T') ∧ T1.next ≤ T0.next + i ∧ Fr b o 754 w wx) (fun wx => (rd wx b (o + 752)).toNat)
                case atStart => exact ⟨T, HI.out.ta, HI.out.ad, hide fun _ z => z, HI.out.nx, HI.out.fr⟩
                case round =>
                  obtain ⟨T1, hta, had, HRM, hnx, hfr⟩ := hrel
                  have HT := hide hta
                  have HA := hide had
                  have HF := hide hfr
                  have HNX := hide hnx
                  have ch := hta.held
                  have hhr := had.inv.heldR
                  obtain ⟨hh0, hh1⟩ := hhr
                  clear hta had hfr hnx
                  by_cases hrm : 64 - T1.held < ((e - i : Nat) : Int)
                  · have hrmi : 64 - T1.held < (e : Int) - (i : Int) := by omega
                    obtain ⟨x, hx, hxu⟩ := used_ex T1.sl 64 (by rw [← HA.out.inv.cnt]; omega)
                    obtain ⟨v, hv⟩ := vic_some T1 64 x hx hxu
                    have HV := hide hv
                    clear hx hxu hv
                    go_wp2_with fail
                    refine (evict_any _ b o T1 HT.out HA.out.inv.ok ⟨hh0, hh1⟩ v HV.out).mono ?_
                    rintro en w3 ⟨rfl, t3, f3⟩
                    have HT3 := hide t3
                    have HF3 := hide (HF.out.trans f3)
                    have HE3 := hide (HA.out.inv.evict HV.out)
                    clear t3 f3
                    go_wp2
                    go_roundw
                    case rel => exact ⟨evictP T1, HT3.out, HA.out.evict HV.out, hide fun T' z => HRM.out T' (Room.step T1 T' hrm z), by rw [evict_next]; exact HNX.out, HF3.out⟩
                    case measure =>
                      rw [rd_eq HT3.out.held, rd_eq ch]
                      have := HE3.out.2
                      have := HE3.out.1.heldR
                      omega
                  · have hrmi : ¬ 64 - T1.held < (e : Int) - (i : Int) := by omega
                    have HRD := hide (HRM.out T1 (Room.stop T1 hrm))
                    go_wp2
                    clear ch
                    go_loopw [6] (fun s6 wx => ∃ k : Nat, i + k ≤ e ∧ s6 = .int .i64 ((i + k : Nat) : Int) ∧ TA wx b o (admitL T1 ((C.drop i).take k)) ∧ AdI C (i + k) (admitL T1 ((C.drop i).take k)) ∧ (admitL T1 ((C.drop i).take k)).held = T1.held + k ∧ (admitL T1 ((C.drop i).take k)).next = T1.next + k ∧ Fr b o 754 w wx) (fun s6 _ => e - (intOf s6).toNat)
                    case atStart => exact ⟨0, by omega, by simp, HT.out, HA.out, by simp [admitL], by simp [admitL], HF.out⟩
                    case round =>
                      clear HT HA HF
                      obtain ⟨k, hk, rfl, hta, had, hhe, hne, hfr⟩ := hrel
                      have HT := hide hta
                      have HA := hide had
                      have HF := hide hfr
                      have HHE := hide hhe
                      have HNE := hide hne
                      clear hta had hfr hhe hne
                      obtain ⟨m, hm⟩ : ∃ m, i + k = m := ⟨_, rfl⟩
                      rw [hm] at HA ⊢
                      have HM := hide hm
                      clear hm
                      by_cases hme : m < e
                      · have hmei : (m : Int) < (e : Int) := by omega
                        have hmn : m < n := by omega
                        have hmni : (m : Int) < (n : Int) := by omega
                        obtain ⟨cm, hcm⟩ : ∃ c, C[m]? = some c := ⟨_, List.getElem?_eq_getElem (by have := HN.out; omega)⟩
                        have HCm := hide hcm
                        have HSN := hide (show admitL T1 ((C.drop i).take (k + 1)) = admitP (admitL T1 ((C.drop i).take k)) (freeOf (admitL T1 ((C.drop i).take k))) cm by
                          rw [List.take_add_one, List.getElem?_drop, HM.out, hcm]; exact admitL_snoc _ _ _)
                        obtain ⟨Tk, hTk⟩ : ∃ X, admitL T1 ((C.drop i).take k) = X := ⟨_, rfl⟩
                        rw [hTk] at HT HA HHE HNE HSN
                        clear hTk
                        have hca2 := HCA.out.keep HF.out.ex hp
                        have m0 := hca2 m cm hcm 0 _ rfl
                        have m1 := hca2 m cm hcm 1 _ rfl
                        have m2 := hca2 m cm hcm 2 _ rfl
                        have m3 := hca2 m cm hcm 3 _ rfl
                        have m4 := hca2 m cm hcm 4 _ rfl
                        have m5 := hca2 m cm hcm 5 _ rfl
                        have m6 := hca2 m cm hcm 6 _ rfl
                        have m7 := hca2 m cm hcm 7 _ rfl
                        have m8 := hca2 m cm hcm 8 _ rfl
                        rw [Nat.add_zero] at m0
                        clear hca2 hcm
                        obtain ⟨q1, q2, q3, q4, q5⟩ := HA.out.admit HOK.out HCm.out (by rw [HHE.out]; have := HM.out; omega)
                        have HQ1 := hide q1
                        have HQ5 := hide q5
                        go_wp2_with fail
                        refine (admit_any _ b o Tk HT.out cm (HOK.out.ok cm (List.mem_of_getElem? HCm.out)) (freeOf Tk) q2 q3 q4 (by have := HA.out.inv.nx; omega) (by have := HA.out.inv.heldR; omega)).mono ?_
                        rintro en w5 ⟨rfl, t5, f5⟩
                        have HT5 := hide t5
                        have HF5 := hide (HF.out.trans f5)
                        clear t5 f5 m0 m1 m2 m3 m4 m5 m6 m7 m8 q1 q2 q3 q4 q5
                        go_wp2
                        go_roundw
                        case rel =>
                          refine ⟨k + 1, by have := HM.out; omega, ?_, ?_, ?_, ?_, ?_, HF5.out⟩
                          · have := HM.out; congr 1; omega
                          · rw [HSN.out]; exact HT5.out
                          · rw [HSN.out, show i + (k + 1) = m + 1 by have := HM.out; omega]; exact HQ1.out
                          · rw [HSN.out, HQ5.out, HHE.out]; omega
                          · rw [HSN.out]; show Tk.next + 1 = _; rw [HNE.out]; omega
                        case measure => simp [intOf]; omega
                      · obtain rfl : m = e := by have := HM.out; omega
                        have hkk : k = m - i := by have := HM.out; omega
                        go_wp2
                        go_roundw
                        case rel =>
                          refine ⟨m, _, by omega, rfl, ⟨HT.out, HA.out, fun T' z => HI.out.up T' ?_, by rw [HNE.out]; have := HNX.out; omega, HF.out⟩⟩
                          refine AdmAll.grp i m T T1 T' hil HEND.out hbig HRD.out ?_
                          rw [← hkk]; exact z
                        case measure => simp [intOf]; omega
              · have hbigi : ¬ (e : Int) - (i : Int) ≤ 64 := by omega
                go_wp2
                go_roundw
                case rel => exact ⟨e, T, by omega, rfl, ⟨HI.out.ta, HI.out.ad.skip (by omega), fun T' z => HI.out.up T' (AdmAll.big i e T T' hil HEND.out (by omega) z), by have := HI.out.nx; omega, HI.out.fr⟩⟩
                case measure => simp [intOf]; omega
        · have heli : ¬ (e : Int) < (n : Int) := by omega
          have HEND := hide (show IsEnd C i e from ⟨hie, by have := HN.out; omega, fun j a c h1 h2 ha hc => by rw [HCa.out] at ha; cases ha; exact HS.out j c h1 h2 hc, fun z => by have := HN.out; omega⟩)
          go_upto_region 3 with fail
          refine wp_region_held_drew (S := fun w' => True) (by kernel_rfl) trivial (fun hHeld => ?_)
          refine wpAnyH_take (i := 0) (v := ?_) rfl (by kernel_rfl) (by kernel_rfl) (by kernel_rfl) (fun _ _ _ h => h) (Or.inl ⟨by rfl, ?_⟩) (by assumption) ?_
          rotate_left
          · (intro w hSw; (try dsimp only at hSw); go_simp; try (with_reducible rfl))
          try simp only [Act.put, List.getElem_toArray, List.getElem_cons_zero, List.getElem_cons_succ, List.setIfInBounds_toArray, List.set_cons_zero, List.set_cons_succ]
          refine wpAnyH_take (i := 1) (v := ?_) rfl (by kernel_rfl) (by kernel_rfl) (by kernel_rfl) (fun _ _ _ h => h) (Or.inl ⟨by rfl, ?_⟩) (by assumption) ?_
          rotate_left
          · (intro w hSw; (try dsimp only at hSw); go_simp; try (with_reducible rfl))
          try simp only [Act.put, List.getElem_toArray, List.getElem_cons_zero, List.getElem_cons_succ, List.setIfInBounds_toArray, List.set_cons_zero, List.set_cons_succ]
          refine wpAnyH_take (i := 2) (v := ?_) rfl (by kernel_rfl) (by kernel_rfl) (by kernel_rfl) (fun _ _ _ h => h) (Or.inl ⟨by rfl, ?_⟩) (by assumption) ?_
          rotate_left
          · (intro w hSw; (try dsimp only at hSw); go_simp; try (with_reducible rfl))
          try simp only [Act.put, List.getElem_toArray, List.getElem_cons_zero, List.getElem_cons_succ, List.setIfInBounds_toArray, List.set_cons_zero, List.set_cons_succ]
          refine wpAnyH_take (i := 3) (v := ?_) rfl (by kernel_rfl) (by kernel_rfl) (by kernel_rfl) (fun _ _ _ h => h) (Or.inl ⟨by rfl, ?_⟩) (by assumption) ?_
          rotate_left
          · (intro w hSw; (try dsimp only at hSw); go_simp; try (with_reducible rfl))
          try simp only [Act.put, List.getElem_toArray, List.getElem_cons_zero, List.getElem_cons_succ, List.setIfInBounds_toArray, List.set_cons_zero, List.set_cons_succ]
          refine wpAnyH_take (i := 4) (v := ?_) rfl (by kernel_rfl) (by kernel_rfl) (by kernel_rfl) (fun _ _ _ h => h) (Or.inl ⟨by rfl, ?_⟩) (by assumption) ?_
          rotate_left
          · (intro w hSw; (try dsimp only at hSw); go_simp; try (with_reducible rfl))
          try simp only [Act.put, List.getElem_toArray, List.getElem_cons_zero, List.getElem_cons_succ, List.setIfInBounds_toArray, List.set_cons_zero, List.set_cons_succ]
          refine wpAnyH_take (i := 5) (v := undef) rfl (by kernel_rfl) (by kernel_rfl) (by kernel_rfl) (fun _ _ _ h => h) (Or.inr ⟨by rfl, rfl⟩) (by assumption) ?_
          try simp only [Act.put, List.getElem_toArray, List.getElem_cons_zero, List.getElem_cons_succ, List.setIfInBounds_toArray, List.set_cons_zero, List.set_cons_succ]
          refine wpAnyH_take (i := 6) (v := undef) rfl (by kernel_rfl) (by kernel_rfl) (by kernel_rfl) (fun _ _ _ h => h) (Or.inr ⟨by rfl, rfl⟩) (by assumption) ?_
          try simp only [Act.put, List.getElem_toArray, List.getElem_cons_zero, List.getElem_cons_succ, List.setIfInBounds_toArray, List.set_cons_zero, List.set_cons_succ]
          refine wpAnyH_take (i := 7) (v := undef) rfl (by kernel_rfl) (by kernel_rfl) (by kernel_rfl) (fun _ _ _ h => h) (Or.inr ⟨by rfl, rfl⟩) (by assumption) ?_
          try simp only [Act.put, List.getElem_toArray, List.getElem_cons_zero, List.getElem_cons_succ, List.setIfInBounds_toArray, List.set_cons_zero, List.set_cons_succ]
          refine wpAnyH_take (i := 8) (v := undef) rfl (by kernel_rfl) (by kernel_rfl) (by kernel_rfl) (fun _ _ _ h => h) (Or.inr ⟨by rfl, rfl⟩) (by assumption) ?_
          try simp only [Act.put, List.getElem_toArray, List.getElem_cons_zero, List.getElem_cons_succ, List.setIfInBounds_toArray, List.set_cons_zero, List.set_cons_succ]
          refine wpAnyH_take (i := 9) (v := undef) rfl (by kernel_rfl) (by kernel_rfl) (by kernel_rfl) (fun _ _ _ h => h) (Or.inr ⟨by rfl, rfl⟩) (by assumption) ?_
          try simp only [Act.put, List.getElem_toArray, List.getElem_cons_zero, List.getElem_cons_succ, List.setIfInBounds_toArray, List.set_cons_zero, List.set_cons_succ]
          refine wpAnyH_take (i := 10) (v := undef) rfl (by kernel_rfl) (by kernel_rfl) (by kernel_rfl) (fun _ _ _ h => h) (Or.inr ⟨by rfl, rfl⟩) (by assumption) ?_
          try simp only [Act.put, List.getElem_toArray, List.getElem_cons_zero, List.getElem_cons_succ, List.setIfInBounds_toArray, List.set_cons_zero, List.set_cons_succ]
          refine wpAnyH_take (i := 11) (v := undef) rfl (by kernel_rfl) (by kernel_rfl) (by kernel_rfl) (fun _ _ _ h => h) (Or.inr ⟨by rfl, rfl⟩) (by assumption) ?_
          try simp only [Act.put, List.getElem_toArray, List.getElem_cons_zero, List.getElem_cons_succ, List.setIfInBounds_toArray, List.set_cons_zero, List.set_cons_succ]
          refine wpAnyH_take (i := 12) (v := undef) rfl (by kernel_rfl) (by kernel_rfl) (by kernel_rfl) (fun _ _ _ h => h) (Or.inr ⟨by rfl, rfl⟩) (by assumption) ?_
          try simp only [Act.put, List.getElem_toArray, List.getElem_cons_zero, List.getElem_cons_succ, List.setIfInBounds_toArray, List.set_cons_zero, List.set_cons_succ]
          refine wpAnyH_take (i := 13) (v := undef) rfl (by kernel_rfl) (by kernel_rfl) (by kernel_rfl) (fun _ _ _ h => h) (Or.inr ⟨by rfl, rfl⟩) (by assumption) ?_
          try simp only [Act.put, List.getElem_toArray, List.getElem_cons_zero, List.getElem_cons_succ, List.setIfInBounds_toArray, List.set_cons_zero, List.set_cons_succ]
          refine wpAnyH_take (i := 14) (v := undef) rfl (by kernel_rfl) (by kernel_rfl) (by kernel_rfl) (fun _ _ _ h => h) (Or.inr ⟨by rfl, rfl⟩) (by assumption) ?_
          try simp only [Act.put, List.getElem_toArray, List.getElem_cons_zero, List.getElem_cons_succ, List.setIfInBounds_toArray, List.set_cons_zero, List.set_cons_succ]
          refine wpAnyH_take (i := 15) (v := undef) rfl (by kernel_rfl) (by kernel_rfl) (by kernel_rfl) (fun _ _ _ h => h) (Or.inr ⟨by rfl, rfl⟩) (by assumption) ?_
          try simp only [Act.put, List.getElem_toArray, List.getElem_cons_zero, List.getElem_cons_succ, List.setIfInBounds_toArray, List.set_cons_zero, List.set_cons_succ]
          refine wpAnyH_take (i := 16) (v := undef) rfl (by kernel_rfl) (by kernel_rfl) (by kernel_rfl) (fun _ _ _ h => h) (Or.inr ⟨by rfl, rfl⟩) (by assumption) ?_
          try simp only [Act.put, List.getElem_toArray, List.getElem_cons_zero, List.getElem_cons_succ, List.setIfInBounds_toArray, List.set_cons_zero, List.set_cons_succ]
          refine wpAnyH_take (i := 17) (v := ?_) rfl (by kernel_rfl) (by kernel_rfl) (by kernel_rfl) (fun _ _ _ h => h) (Or.inl ⟨by rfl, ?_⟩) (by assumption) ?_
          rotate_left
          · (intro w hSw; (try dsimp only at hSw); go_simp; try (with_reducible rfl))
          try simp only [Act.put, List.getElem_toArray, List.getElem_cons_zero, List.getElem_cons_succ, List.setIfInBounds_toArray, List.set_cons_zero, List.set_cons_succ]
          refine wpAnyH_done (by kernel_rfl) ?_ _
          replace HI := hide (show AaI w b o C T0 i T wr.drew from ⟨HI.out.ta.drew, HI.out.ad, HI.out.up, HI.out.nx, HI.out.fr.drew⟩)
          have hgi : IntKind.i64.wrap ((e : Int) - (i : Int)) = (e : Int) - (i : Int) := by rw [IntKind.wrap_i64]; omega
          by_cases hbig : e - i ≤ 64
          · have hbigi : (e : Int) - (i : Int) ≤ 64 := by omega
            go_upto_region 6 with fail
            clear hbigi
            go_loopw [] (fun wx => ∃ T1 : Tbl, TA wx b o T1 ∧ AdI C i T1 ∧ Hid (∀ T', Room ((e - i : Nat) : Int) T1 T' → Room ((e - i : Nat) : Int) T T') ∧ T1.next ≤ T0.next + i ∧ Fr b o 754 w wx) (fun wx => (rd wx b (o + 752)).toNat)
            case atStart => exact ⟨T, HI.out.ta, HI.out.ad, hide fun _ z => z, HI.out.nx, HI.out.fr⟩
            case round =>
              obtain ⟨T1, hta, had, HRM, hnx, hfr⟩ := hrel
              have HT := hide hta
              have HA := hide had
              have HF := hide hfr
              have HNX := hide hnx
              have ch := hta.held
              have hhr := had.inv.heldR
              obtain ⟨hh0, hh1⟩ := hhr
              clear hta had hfr hnx
              by_cases hrm : 64 - T1.held < ((e - i : Nat) : Int)
              · have hrmi : 64 - T1.held < (e : Int) - (i : Int) := by omega
                obtain ⟨x, hx, hxu⟩ := used_ex T1.sl 64 (by rw [← HA.out.inv.cnt]; omega)
                obtain ⟨v, hv⟩ := vic_some T1 64 x hx hxu
                have HV := hide hv
                clear hx hxu hv
                go_wp2_with fail
                refine (evict_any _ b o T1 HT.out HA.out.inv.ok ⟨hh0, hh1⟩ v HV.out).mono ?_
                rintro en w3 ⟨rfl, t3, f3⟩
                have HT3 := hide t3
                have HF3 := hide (HF.out.trans f3)
                have HE3 := hide (HA.out.inv.evict HV.out)
                clear t3 f3
                go_wp2
                go_roundw
                case rel => exact ⟨evictP T1, HT3.out, HA.out.evict HV.out, hide fun T' z => HRM.out T' (Room.step T1 T' hrm z), by rw [evict_next]; exact HNX.out, HF3.out⟩
                case measure =>
                  rw [rd_eq HT3.out.held, rd_eq ch]
                  have := HE3.out.2
                  have := HE3.out.1.heldR
                  omega
              · have hrmi : ¬ 64 - T1.held < (e : Int) - (i : Int) := by omega
                have HRD := hide (HRM.out T1 (Room.stop T1 hrm))
                go_wp2
                clear ch
                go_loopw [6] (fun s6 wx => ∃ k : Nat, i + k ≤ e ∧ s6 = .int .i64 ((i + k : Nat) : Int) ∧ TA wx b o (admitL T1 ((C.drop i).take k)) ∧ AdI C (i + k) (admitL T1 ((C.drop i).take k)) ∧ (admitL T1 ((C.drop i).take k)).held = T1.held + k ∧ (admitL T1 ((C.drop i).take k)).next = T1.next + k ∧ Fr b o 754 w wx) (fun s6 _ => e - (intOf s6).toNat)
                case atStart => exact ⟨0, by omega, by simp, HT.out, HA.out, by simp [admitL], by simp [admitL], HF.out⟩
                case round =>
                  clear HT HA HF
                  obtain ⟨k, hk, rfl, hta, had, hhe, hne, hfr⟩ := hrel
                  have HT := hide hta
                  have HA := hide had
                  have HF := hide hfr
                  have HHE := hide hhe
                  have HNE := hide hne
                  clear hta had hfr hhe hne
                  obtain ⟨m, hm⟩ : ∃ m, i + k = m := ⟨_, rfl⟩
                  rw [hm] at HA ⊢
                  have HM := hide hm
                  clear hm
                  by_cases hme : m < e
                  · have hmei : (m : Int) < (e : Int) := by omega
                    have hmn : m < n := by omega
                    have hmni : (m : Int) < (n : Int) := by omega
                    obtain ⟨cm, hcm⟩ : ∃ c, C[m]? = some c := ⟨_, List.getElem?_eq_getElem (by have := HN.out; omega)⟩
                    have HCm := hide hcm
                    have HSN := hide (show admitL T1 ((C.drop i).take (k + 1)) = admitP (admitL T1 ((C.drop i).take k)) (freeOf (admitL T1 ((C.drop i).take k))) cm by
                      rw [List.take_add_one, List.getElem?_drop, HM.out, hcm]; exact admitL_snoc _ _ _)
                    obtain ⟨Tk, hTk⟩ : ∃ X, admitL T1 ((C.drop i).take k) = X := ⟨_, rfl⟩
                    rw [hTk] at HT HA HHE HNE HSN
                    clear hTk
                    have hca2 := HCA.out.keep HF.out.ex hp
                    have m0 := hca2 m cm hcm 0 _ rfl
                    have m1 := hca2 m cm hcm 1 _ rfl
                    have m2 := hca2 m cm hcm 2 _ rfl
                    have m3 := hca2 m cm hcm 3 _ rfl
                    have m4 := hca2 m cm hcm 4 _ rfl
                    have m5 := hca2 m cm hcm 5 _ rfl
                    have m6 := hca2 m cm hcm 6 _ rfl
                    have m7 := hca2 m cm hcm 7 _ rfl
                    have m8 := hca2 m cm hcm 8 _ rfl
                    rw [Nat.add_zero] at m0
                    clear hca2 hcm
                    obtain ⟨q1, q2, q3, q4, q5⟩ := HA.out.admit HOK.out HCm.out (by rw [HHE.out]; have := HM.out; omega)
                    have HQ1 := hide q1
                    have HQ5 := hide q5
                    go_wp2_with fail
                    refine (admit_any _ b o Tk HT.out cm (HOK.out.ok cm (List.mem_of_getElem? HCm.out)) (freeOf Tk) q2 q3 q4 (by have := HA.out.inv.nx; omega) (by have := HA.out.inv.heldR; omega)).mono ?_
                    rintro en w5 ⟨rfl, t5, f5⟩
                    have HT5 := hide t5
                    have HF5 := hide (HF.out.trans f5)
                    clear t5 f5 m0 m1 m2 m3 m4 m5 m6 m7 m8 q1 q2 q3 q4 q5
                    go_wp2
                    go_roundw
                    case rel =>
                      refine ⟨k + 1, by have := HM.out; omega, ?_, ?_, ?_, ?_, ?_, HF5.out⟩
                      · have := HM.out; congr 1; omega
                      · rw [HSN.out]; exact HT5.out
                      · rw [HSN.out, show i + (k + 1) = m + 1 by have := HM.out; omega]; exact HQ1.out
                      · rw [HSN.out, HQ5.out, HHE.out]; omega
                      · rw [HSN.out]; show Tk.next + 1 = _; rw [HNE.out]; omega
                    case measure => simp [intOf]; omega
                  · obtain rfl : m = e := by have := HM.out; omega
                    have hkk : k = m - i := by have := HM.out; omega
                    go_wp2
                    go_roundw
                    case rel =>
                      refine ⟨m, _, by omega, rfl, ⟨HT.out, HA.out, fun T' z => HI.out.up T' ?_, by rw [HNE.out]; have := HNX.out; omega, HF.out⟩⟩
                      refine AdmAll.grp i m T T1 T' hil HEND.out hbig HRD.out ?_
                      rw [← hkk]; exact z
                    case measure => simp [intOf]; omega
          · have hbigi : ¬ (e : Int) - (i : Int) ≤ 64 := by omega
            go_wp2
            go_roundw
            case rel => exact ⟨e, T, by omega, rfl, ⟨HI.out.ta, HI.out.ad.skip (by omega), fun T' z => HI.out.up T' (AdmAll.big i e T T' hil HEND.out (by omega) z), by have := HI.out.nx; omega, HI.out.fr⟩⟩
            case measure => simp [intOf]; omega
    · obtain rfl : i = n := by omega
      go_wp2
      exact bodyPost_ret (v := .tuple #[]) (by simp [results, Try.results63, go_sem]) rfl ⟨T, rfl, HI.out.ta, HI.out.ad.inv, HI.out.up T (AdmAll.done _ _ (by have := HN.out; omega)), by have := HI.out.nx; omega, HI.out.fr⟩
end Go.Proofs.Qxb6500777a
