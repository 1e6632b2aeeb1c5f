import Derived.Test.Qxb6500773aGreatZM
import Derived.Test.Qxb6500773aGreatZK
import Derived.Test.Qxb6500773aGreatZE
import Derived.Test.Qxb6500773aGreatFp2
namespace Go.Proofs.Qxb6500773aGreat
open Go.RowKit

set_option linter.unusedSimpArgs false in
set_option maxRecDepth 100000 in
set_option maxHeartbeats 8000000 in
theorem insSort0_any (w : World) : Calls Tryz.prog 145 #[.slice none 0 0] w fun e w' => e = .returned (.tuple #[]) ∧ w' = w := by
  go_enter Tryz.func145, Tryz.ntmps145
  go_wp2_with fail
  go_loopw [2] (fun s2 wr => s2 = .int .i64 1 ∧ wr = w) (fun s2 _ => 0)
  case atStart => exact ⟨rfl, rfl⟩
  case round =>
    obtain ⟨rfl, rfl⟩ := hrel
    have hib : decide ((1 : Int) < 0) = false := by decide
    go_wp2_with (first | with_reducible refine bodyPost_ret (v := .tuple #[]) ?hr ?hd ?hp | with_reducible refine bodyPost_nrm (v := .tuple #[]) ?hr ?hd ?hp)
    case hr => exact results_nil Tryz.results145
    case hd => rfl
    try case hp => exact ⟨rfl, rfl⟩
set_option linter.unusedSimpArgs false in
set_option maxRecDepth 100000 in
set_option maxHeartbeats 8000000 in
theorem sort0_any (w : World) : Calls Tryz.prog 101 #[.slice none 0 0] w fun e w' => e = .returned (.tuple #[]) ∧ w' = w := by
  go_enter Tryz.func101, Tryz.ntmps101
  go_wp2_with fail
  refine (insSort0_any w).mono ?_
  rintro e w' ⟨rfl, hw⟩
  rw [hw]
  clear hw w'
  go_wp2_with (first | with_reducible refine bodyPost_ret (v := .tuple #[]) ?hr ?hd ?hp | with_reducible refine bodyPost_nrm (v := .tuple #[]) ?hr ?hd ?hp)
  case hr => exact results_nil Tryz.results101
  case hd => rfl
  try case hp => exact ⟨rfl, rfl⟩
set_option linter.unusedSimpArgs false in
set_option maxRecDepth 100000 in
set_option maxHeartbeats 8000000 in
theorem normalize0_any (w : World) : Calls Tryz.prog 16 #[.slice none 0 0] w fun e w' => e = .returned (.tuple #[.slice none 0 0, .bool false]) ∧ w' = w := by
  go_enter Tryz.func16, Tryz.ntmps16
  go_wp2_with fail
  refine (sort0_any w).mono ?_
  rintro e w' ⟨rfl, hw⟩
  rw [hw]
  clear hw w'
  go_wp2_with fail
  go_loopw [4, 5, 7, 12] (fun s4 s5 _ s12 wr => s12 = .int .i64 0 ∧ s5 = .int .i64 0 ∧ s4 = .bool false ∧ wr = w) (fun _ _ _ _ _ => 0)
  case atStart => exact ⟨rfl, rfl, rfl, rfl⟩
  case round =>
    obtain ⟨rfl, rfl, rfl, rfl⟩ := hrel
    go_wp2
    exact bodyPost_ret (v := .tuple #[.slice none 0 0, .bool false]) (by simp [results, Tryz.results16, go_sem]) rfl ⟨rfl, rfl⟩
def NzPost (w : World) (a : Option Addr) (c : Nat) (C : List Int) (e : Ending) (w' : World) : Prop :=
  e = .returned (.tuple #[.slice a (nfP C).1.length c, .bool (nfP C).2]) ∧ CL w' a (nfP C).1 ∧ Ex (fun k => (Value.slice a C.length c).ownBlock = some k) w w'
/-- cnf.Clause.Normalize of a clause of one's own -/
theorem normalizeZ_any (w : World) (B : Nat) (a : Option Addr) (c : Nat) (C : List Int) (h : w.ownsRow B 64 1 (.slice a C.length c) C.length (row32 C)) (hC : ∀ x ∈ C, LitOk x) (hl : C.length ≤ 1000000000) :
    Calls Tryz.prog 16 #[.slice a C.length c] w (NzPost w a c C) := by
  by_cases ha : ∃ g, a = some ⟨g, 0, none⟩
  · obtain ⟨g, rfl⟩ := ha
    refine (normalize_any w B g C.length c C ⟨h, rfl⟩ hC hl).mono ?_
    rintro e w' ⟨D, h1, h2, h3, ⟨M, h4, h5⟩, h6⟩
    have e1 := srt_eq h2 h1
    subst e1
    refine ⟨h3, fun j x hx => ⟨g, 0, rfl, ?_⟩, h6.mono (fun k (z : k = g) => by rw [z]; rfl)⟩
    have hx2 : M[j]? = some x := by
      have hx' : (nmP (srtP C)).1[j]? = some x := hx
      rw [← h5] at hx'
      have hj := (List.getElem?_eq_some_iff.1 hx').1
      rw [List.getElem?_take_of_lt (by rw [List.length_take] at hj; omega)] at hx'
      exact hx'
    have hj := (List.getElem?_eq_some_iff.1 hx2).1
    have := h4.cell (i := j) (by rw [← h4.len]; exact hj)
    rw [gt_some hx2] at this
    rw [Nat.zero_add]
    exact this
  · have hz : C.length = 0 ∧ a = none ∧ c = 0 := by
      rcases h.2 with ⟨e1, e2⟩ | ⟨g, cap, cur, e1, _⟩
      · injection e1 with e3 e4 e5
        exact ⟨e2, e3, e5⟩
      · injection e1 with e3
        exact absurd ⟨g, e3⟩ ha
    obtain ⟨h0, rfl, rfl⟩ := hz
    have hc0 : C = [] := List.length_eq_zero_iff.1 h0
    subst hc0
    refine (normalize0_any w).mono ?_
    rintro e w' ⟨rfl, rfl⟩
    exact ⟨rfl, (fun j x hx => by cases hx), Ex.refl _ _⟩
set_option linter.unusedSimpArgs false in
set_option maxRecDepth 100000 in
set_option maxHeartbeats 8000000 in
/-- cnf.Clause.SameSet -/
theorem sameSet_any (w : World) (a b : Option Addr) (c d : Nat) (C D : List Int) (hc : CL w a C) (hd : CL w b D) (hC : ∀ x ∈ C, LitOk x) (hD : ∀ x ∈ D, LitOk x) (hl : C.length ≤ 1000000000) (hl' : D.length ≤ 1000000000) :
    Calls Tryz.prog 18 #[.slice a C.length c, .slice b D.length d] w fun e w' => e = .returned (.bool ((nfP C).1 == (nfP D).1)) ∧ Below w.heap.size w w' := by
  have HD := hide hd
  have HCo := hide hC
  have HDo := hide hD
  have c1 := hide (cloneC_any w a c C hc hl)
  have HNL := hide (And.intro (nf_len C) (nf_len D))
  have HZ1 := hide (fun (w1 : World) (B g c : Nat) r => normalizeZ_any w1 B (some ⟨g, 0, none⟩) c C r hC hl)
  have HZ2 := hide (fun (w1 : World) (B g c : Nat) r => normalizeZ_any w1 B (some ⟨g, 0, none⟩) c D r hD hl')
  unfold NzPost at HZ1 HZ2
  generalize nfP C = NC at *
  generalize nfP D = ND at *
  obtain ⟨NC1, NC2⟩ := NC
  obtain ⟨ND1, ND2⟩ := ND
  dsimp only at HZ1 HZ2 HNL ⊢
  clear hc hd hC hD
  go_enter Tryz.func18, Tryz.ntmps18
  go_wp2_with fail
  refine c1.out.mono ?_
  rintro e w1 ⟨g1, rfl, r1, e1⟩
  clear c1
  have c2 := hide (HZ1.out w1 w.heap.size g1 C.length r1)
  have HG1 := hide (r1.lt g1 rfl)
  have HD1 := hide (HD.out.keep e1 (fun _ _ _ z => z))
  have HE1 := hide e1
  clear r1 e1
  go_wp2_with fail
  refine c2.out.mono ?_
  rintro e w2 ⟨rfl, k2, e2⟩
  have HK2 := hide k2
  have HE2 : Hid (Below w.heap.size w w2) := (HE1.out.below (Nat.le_refl _) (fun _ _ z => z)).trans (e2.below HE1.out.size (fun k hk z => by have : g1 = k := Option.some.inj z; have := HG1.out; omega))
  have HD2 := hide (HD.out.below HE2.out)
  clear c2 k2 e2 HD1 HE1
  have c3 := hide (cloneC_any w2 b d D HD2.out hl')
  go_wp2_with fail
  refine c3.out.mono ?_
  rintro e w3 ⟨g3, rfl, r3, e3⟩
  clear c3
  have c4 := hide (HZ2.out w3 w2.heap.size g3 D.length r3)
  have HG3 := hide (r3.lt g3 rfl)
  have HE3 := hide e3
  clear r3 e3
  go_wp2_with fail
  refine c4.out.mono ?_
  rintro e w4 ⟨rfl, k4, e4⟩
  have HK4 := hide k4
  have HE4 : Hid (Below w2.heap.size w2 w4) := (HE3.out.below (Nat.le_refl _) (fun _ _ z => z)).trans (e4.below HE3.out.size (fun k hk z => by have : g3 = k := Option.some.inj z; have := HG3.out; omega))
  have HK24 := hide (HK2.out.below HE4.out)
  have HB := hide (lec HE2.out HE4.out)
  clear c4 k4 e4 HE3 HE4
  have c5 := hide (equalC_any w4 _ _ C.length D.length NC1 ND1 HK24.out HK4.out (by have := HNL.out; omega) (by have := HNL.out; omega))
  clear HK2 HK4 HK24 HNL HD HD2 HE2 HG1 HG3
  go_wp2_with fail
  refine c5.out.mono ?_
  rintro e w5 ⟨rfl, hw5⟩
  rw [hw5]
  clear hw5 w5 c5
  go_wp2
  go_ret
  exact ⟨rfl, HB.out⟩
end Go.Proofs.Qxb6500773aGreat
