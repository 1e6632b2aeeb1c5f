import Derived.Test.Qxb6500784aGo
namespace Go.Proofs.Qxb6500784a
open Go.RowKit

def fitP (P : Pr) (ga gb : Int) : Bool := decide (ga ≤ (P.la.gl - P.la.gu) % 18446744073709551616) && decide (gb ≤ (P.lb.gl - P.lb.gu) % 18446744073709551616)
set_option linter.unusedSimpArgs false in
set_option maxRecDepth 100000 in
set_option maxHeartbeats 8000000 in
theorem pfits_any (w : World) (b : Nat) (P : Pr) (S : List Nat) (h : PP w b P S) (a : Option Addr) (n cap : Nat) (L : Nat → Leg) (T : Nat → List Int) (hn : n ≤ 9223372036854775807) (hL : LegsAt w a n L) (hV : ∀ i, i < n → LegV (legL (L i)) (L i).ch (T i)) :
    Calls Try.prog 41 #[.pointer (some ⟨b, 0, none⟩), .agg #[.slice a n cap]] w fun e w' => e = .returned (.bool (fitP P (gasK L T 1 n) (gasK L T 2 n))) ∧ Below w.heap.size w w' := by
  have HIN := hide (fun (x : World) (k : Below w.heap.size w x) => gasOf_any x a n cap L T hn (hL.below k) hV)
  have HBE := hide (be1 w (.cells #[.slice a n cap] 27))
  have HC := hide (newR w [.slice a n cap] 27 0 _ rfl)
  have HP := hide h
  generalize gasK L T 1 n = ga at *
  generalize gasK L T 2 n = gb at *
  clear h hn hL hV
  unfold fitP
  obtain ⟨x1, h1⟩ : ∃ x, decide (ga ≤ (P.la.gl - P.la.gu) % 18446744073709551616) = x := ⟨_, rfl⟩
  obtain ⟨x2, h2⟩ : ∃ x, decide (gb ≤ (P.lb.gl - P.lb.gu) % 18446744073709551616) = x := ⟨_, rfl⟩
  rw [h1, h2]
  have h1' : decide (ga ≤ IntKind.u64.wrap (P.la.gl - P.la.gu)) = x1 := by rw [IntKind.wrap_u64]; exact h1
  have h2' : decide (gb ≤ IntKind.u64.wrap (P.lb.gl - P.lb.gu)) = x2 := by rw [IntKind.wrap_u64]; exact h2
  clear h1 h2
  go_enter Try.func41, Try.ntmps41
  go_upto_region 1 with fail
  obtain ⟨D, hD⟩ : ∃ D, w.heap.size = D := ⟨_, rfl⟩
  simp only [Nat.zero_add] at HC
  rw [hD] at HC ⊢
  have HD := hide hD
  clear hD
  generalize w.alloc (.cells #[.slice a n cap] 27) = w1 at *
  have cD := HC.out
  go_upto_region 2 with (go_at_call 42; refine (HIN.out w1 HBE.out).mono ?_; rintro e y ⟨rfl, hbe⟩; have HB2 := hide (lec HBE.out hbe); clear hbe; simp only [])
  have HPY := hide (HP.out.below HB2.out)
  obtain ⟨_, ha, -⟩ := HPY.out.onA
  obtain ⟨_, hb, -⟩ := HPY.out.onB
  have e1 : y.cell? ⟨b, 323, none⟩ = some (.int .u64 P.la.gl) := by have := ha.cell (fun m s => Led0.at323 ha.ok m s); rwa [Nat.zero_add] at this
  have e2 : y.cell? ⟨b, 324, none⟩ = some (.int .u64 P.la.gu) := by have := ha.cell (fun m s => Led0.at324 ha.ok m s); rwa [Nat.zero_add] at this
  have e3 : y.cell? ⟨b, 649, none⟩ = some (.int .u64 P.lb.gl) := hb.cell (fun m s => Led0.at323 hb.ok m s)
  have e4 : y.cell? ⟨b, 650, none⟩ = some (.int .u64 P.lb.gu) := hb.cell (fun m s => Led0.at324 hb.ok m s)
  clear ha hb cD
  generalize P.la.gl = l1 at *
  generalize P.la.gu = u1 at *
  generalize P.lb.gl = l2 at *
  generalize P.lb.gu = u2 at *
  cases x1
  · go_quiet (fail)
    have HB3 := hide (lec HB2.out (below_dn y nq))
    go_wp2
    go_ret
    exact ⟨rfl, HB3.out⟩
  · go_quiet (fail)
    have HB3 := hide (lec HB2.out (below_dn y nq))
    go_wp2
    go_ret
    exact ⟨rfl, HB3.out⟩
end Go.Proofs.Qxb6500784a
