import Derived.Test.Qxb6500778aPb0
namespace Go.Proofs.Qxb6500778a
open Go.RowKit

/-! ### The model's configuration -/
structure MN where
  rt : Nat → List Rt
  ac : Nat → List Rl
  up : Nat → Bool
  lk : Nat → Nat → Bool
/-- A model's configuration in block b from cell o on; its rows are only read. -/
structure MA (w : World) (b o : Nat) (M : MN) (vr va : Nat → Value) : Prop where
  r : ∀ d, d < 16 → w.cell? ⟨b, o + d, none⟩ = some (vr d)
  a : ∀ d, d < 16 → w.cell? ⟨b, o + 16 + d, none⟩ = some (va d)
  u : ∀ d, d < 16 → w.cell? ⟨b, o + 32 + d, none⟩ = some (.bool (M.up d))
  l : ∀ d e, d < 16 → e < 16 → w.cell? ⟨b, o + 48 + (d * 16 + e), none⟩ = some (.bool (M.lk d e))
  ro : ∀ d, d < 16 → w.ownsRow 0 77 3 (vr d) (M.rt d).length (flatR (M.rt d))
  ao : ∀ d, d < 16 → w.ownsRow 0 81 4 (va d) (M.ac d).length (flatA (M.ac d))
theorem MA.keep {w w' : World} {b o : Nat} {M : MN} {vr va : Nat → Value} {S : Nat → Prop} (h : MA w b o M vr va) (e : Ex S w w') (hb : ¬ S b) (hr : ∀ d, d < 16 → ∀ k, (vr d).ownBlock = some k → ¬ S k) (ha : ∀ d, d < 16 → ∀ k, (va d).ownBlock = some k → ¬ S k) : MA w' b o M vr va :=
  ⟨fun d hd => e.cell hb (h.r d hd), fun d hd => e.cell hb (h.a d hd), fun d hd => e.cell hb (h.u d hd), fun d f hd hf => e.cell hb (h.l d f hd hf), fun d hd => own_kept (h.ro d hd) e (hr d hd), fun d hd => own_kept (h.ao d hd) e (ha d hd)⟩
theorem MA.new {w w' : World} {b o : Nat} {M : MN} {vr va : Nat → Value} (h : MA w b o M vr va) (e : Ex (fun _ => False) w w') : MA w' b o M vr va := h.keep e (fun e => e) (fun _ _ _ _ e => e) (fun _ _ _ _ e => e)
/-- the place of a route in the model's bag -/
def ixR : List Rt → Int → Int → Nat → Int
  | [], _, _, _ => -1
  | r :: L, p, l, i => if r.pr = p ∧ r.ln = l then (i : Int) else ixR L p l (i + 1)
set_option linter.unusedSimpArgs false in
set_option maxRecDepth 100000 in
set_option maxHeartbeats 8000000 in
/-- Net.routeAt -/
theorem routeAt_any (w : World) (b o : Nat) (M : MN) (vr va : Nat → Value) (h : MA w b o M vr va) (d : Nat) (hd : d < 16) (p l : Int) (hlen : (M.rt d).length ≤ 1000000) :
    Calls Try.prog 81 #[.pointer (some ⟨b, o, none⟩), .int .i64 d, .int .i64 p, .int .i64 l] w fun e w' => e = .returned (.int .i64 (ixR (M.rt d) p l 0)) ∧ w' = w := by
  have c0 := h.r d hd
  obtain ⟨sa, sc, hv⟩ := own_len (h.ro d hd)
  have HO := hide (h.ro d hd)
  rw [hv] at c0 HO
  clear hv h
  generalize M.rt d = L at *
  obtain ⟨n, hn⟩ : ∃ n, L.length = n := ⟨_, rfl⟩
  have HNL := hide hn
  rw [hn] at c0 HO hlen
  clear hn
  have hdi : (d : Int) < 16 := by omega
  go_enter Try.func81, Try.ntmps81
  go_wp2_with fail
  go_loopw [9] (fun s9 wr => ∃ (i : Nat), s9 = .int .i64 i ∧ i ≤ n ∧ Hid (ixR L p l 0 = ixR (L.drop i) p l i) ∧ wr = w) (fun s9 _ => n - (intOf s9).toNat)
  case atStart => exact ⟨0, rfl, Nat.zero_le _, rfl, rfl⟩
  case round =>
    obtain ⟨i, rfl, hin, HI, rfl⟩ := hrel
    by_cases hi : i < n
    · have hib : decide ((i : Int) < (n : Int)) = true := decide_eq_true (by omega)
      have hii : (i : Int) < (n : Int) := by omega
      obtain ⟨x, hx⟩ : ∃ x, L[i]? = some x := ⟨_, List.getElem?_eq_getElem (by rw [HNL.out]; exact hi)⟩
      obtain ⟨g, cc, hv⟩ := own_some HO.out (by omega)
      injection hv with hv1 hv2 hv3
      subst hv1
      have o1 := HO.out
      rw [← HNL.out] at o1
      obtain ⟨x0, x1, x2⟩ := rt_cells o1 rfl hx
      have e1 : L.drop i = x :: L.drop (i + 1) := by
        obtain ⟨hil, e⟩ := List.getElem?_eq_some_iff.1 hx
        rw [List.drop_eq_getElem_cons hil, e]
      rw [e1, ixR] at HI
      clear o1 hx hv2 hv3 e1
      obtain ⟨xp, xl, xh⟩ := x
      simp only [] at x0 x1 x2 HI
      by_cases k1 : xp = p
      · by_cases k2 : xl = l
        · rw [if_pos ⟨k1, k2⟩] at HI
          subst k1
          subst k2
          go_wp2
          go_ret
          exact ⟨ret_int HI.out.symm, rfl⟩
        · rw [if_neg (fun z => k2 z.2)] at HI
          subst k1
          have b2 : (xl == l) = false := by simpa using k2
          clear k2
          go_wp2
          go_roundw
          case rel => exact ⟨i + 1, by go_num, by omega, HI, trivial⟩
          case measure => simp [intOf]; omega
      · rw [if_neg (fun z => k1 z.1)] at HI
        have b1 : (xp == p) = false := by simpa using k1
        clear k1
        go_wp2
        go_roundw
        case rel => exact ⟨i + 1, by go_num, by omega, HI, trivial⟩
        case measure => simp [intOf]; omega
    · obtain rfl : i = n := by omega
      have hib : decide ((i : Int) < (i : Int)) = false := decide_eq_false (by omega)
      have HR : Hid (ixR L p l 0 = -1) := by
        have h1 := HI.out
        rw [List.drop_of_length_le (by rw [HNL.out]; exact Nat.le_refl _), ixR] at h1
        exact h1
      go_wp2
      go_ret
      exact ⟨ret_int HR.out.symm, rfl⟩
set_option linter.unusedSimpArgs false in
set_option maxRecDepth 100000 in
set_option maxHeartbeats 8000000 in
/-- Net.full -/
theorem full_any (w : World) (b o : Nat) (M : MN) (vr va : Nat → Value) (h : MA w b o M vr va) (d : Nat) (hd : d < 16) (h1 : (M.rt d).length ≤ 1000000) (h2 : (M.ac d).length ≤ 1000000) :
    Calls Try.prog 82 #[.pointer (some ⟨b, o, none⟩), .int .i64 d] w fun e w' => e = .returned (.bool (decide (64 ≤ (M.rt d).length + (M.ac d).length))) ∧ ∃ m, w' = w.drewN m := by
  have c0 := h.r d hd
  have c1 := h.a d hd
  obtain ⟨sa, sc, hv⟩ := own_len (h.ro d hd)
  obtain ⟨ta, tc, hv2⟩ := own_len (h.ao d hd)
  rw [hv] at c0
  rw [hv2] at c1
  clear hv hv2 h
  generalize (M.rt d).length = n at *
  generalize (M.ac d).length = m at *
  have hdi : (d : Int) < 16 := by omega
  obtain ⟨bq, hbq⟩ : ∃ q, decide (64 ≤ n + m) = q := ⟨_, rfl⟩
  have hq : decide ((64 : Int) ≤ (n : Int) + (m : Int)) = bq := by rw [← hbq]; exact decide_eq_decide.2 (by omega)
  rw [hbq]
  clear hbq
  go_enter Try.func82, Try.ntmps82
  go_wp2_with fail
  go_quiet (fail)
  go_wp2
  go_ret
  exact ⟨rfl, _, rfl⟩
end Go.Proofs.Qxb6500778a
