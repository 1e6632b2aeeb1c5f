import Derived.Test.Qxb6500776aOft
namespace Go.Proofs.Qxb6500776a
open Go.RowKit

def SsPost (w : World) (M M' : List Smk) (e : Ending) (w' : World) : Prop := ∃ b : Bool, e = .returned (.bool b) ∧ (b = true → M = M') ∧ Below w.heap.size w w'
set_option maxRecDepth 100000 in
set_option maxHeartbeats 2000000 in
theorem sameSmoke_any (w : World) (p p' : Nat) (v1 v2 v1' v2' : Value) (L L' : List Shp) (M M' : List Smk) (h : WD w p v1 v2 L M) (h' : WD w p' v1' v2' L' M') (hm : M.length ≤ 32) (hm' : M'.length ≤ 32) :
    Calls Try.prog 25 #[.pointer (some ⟨p, 0, none⟩), .pointer (some ⟨p', 0, none⟩)] w (SsPost w M M') := by
  obtain ⟨a, c, e⟩ := own_form h.r2
  obtain ⟨a', c', e'⟩ := own_form h'.r2
  obtain ⟨n, hn⟩ : ∃ n, M.length = n := ⟨_, rfl⟩
  obtain ⟨n', hn'⟩ : ∃ n, M'.length = n := ⟨_, rfl⟩
  rw [hn] at e hm
  rw [hn'] at e' hm'
  have HW := hide h
  have HW' := hide h'
  have E := hide e
  have E' := hide e'
  have HN := hide hn
  have HN' := hide hn'
  have y := h.c1
  have y' := h'.c1
  rw [e] at y
  rw [e'] at y'
  clear h h' e e' hn hn'
  by_cases hnn : n = n'
  · subst hnn
    go_enter Try.func25, Try.ntmps25
    go_upto_region 1 with fail
    go_quiet (fail)
    clear y y'
    go_wp2
    go_loopw [5] (fun sj wr => ∃ j : Nat, j ≤ n ∧ sj = .int .i64 j ∧ (∀ i, i < j → M[i]? = M'[i]?) ∧ Below w.heap.size w wr) (fun sj _ => n - (intOf sj).toNat)
    case atStart => exact ⟨0, by omega, rfl, fun i hi => by omega, belN _ _⟩
    case round =>
      obtain ⟨j, hj, rfl, heq, hb⟩ := hrel
      have HQ := hide heq
      have HB := hide hb
      have R := HW.out.below hb
      have R' := HW'.out.below hb
      have y := R.c1
      have y' := R'.c1
      rw [E.out] at y
      rw [E'.out] at y'
      clear heq hb
      by_cases hlt : j < n
      · have hlti : (j : Int) < (n : Int) := by omega
        obtain ⟨m, hm1⟩ : ∃ m, M[j]? = some m := ⟨_, List.getElem?_eq_getElem (by have := HN.out; omega)⟩
        obtain ⟨m', hm1'⟩ : ∃ m, M'[j]? = some m := ⟨_, List.getElem?_eq_getElem (by have := HN'.out; omega)⟩
        obtain ⟨g, c9, e9⟩ := own_some R.r2 (by have := HN.out; omega)
        rw [HN.out, E.out] at e9
        cases e9
        obtain ⟨g', c8, e8⟩ := own_some R'.r2 (by have := HN'.out; omega)
        rw [HN'.out, E'.out] at e8
        cases e8
        rw [E.out] at R
        rw [E'.out] at R'
        have hr := R.smoke hm1 HN.out.symm
        have hr' := R'.smoke hm1' HN'.out.symm
        have x0 := hr 0 _ rfl
        have x1 := hr 1 _ rfl
        have x2 := hr 2 _ rfl
        have z0 := hr' 0 _ rfl
        have z1 := hr' 1 _ rfl
        have z2 := hr' 2 _ rfl
        rw [Nat.add_zero] at x0 z0
        have HMM := hide (And.intro hm1 hm1')
        clear hr hr' R R' hm1 hm1'
        by_cases hne : m.x = m'.x ∧ m.y = m'.y ∧ m.r = m'.r
        · obtain ⟨mx, my, mr⟩ := m
          obtain ⟨mx', my', mr'⟩ := m'
          obtain ⟨rfl, rfl, rfl⟩ := hne
          dsimp only at x0 x1 x2 z0 z1 z2
          go_upto_region 6 with fail
          go_quiet (fail)
          clear y y' x0 x1 x2 z0 z1 z2
          go_wp2
          go_roundw
          case rel =>
            refine ⟨j + 1, by omega, by simp, fun i hi => ?_, lec HB.out (belN _ _)⟩
            rcases (by omega : i < j ∨ i = j) with q | rfl
            · exact HQ.out i q
            · rw [HMM.out.1, HMM.out.2]
          case measure => simp [intOf]; omega
        · have key : (m.x == m'.x) = false ∨ ((m.x == m'.x) = true ∧ ((m.y == m'.y) = false ∨ ((m.y == m'.y) = true ∧ (m.r == m'.r) = false))) := by
            simp only [beq_eq_false_iff_ne, beq_iff_eq, ne_eq]
            by_cases q1 : m.x = m'.x
            · by_cases q2 : m.y = m'.y
              · exact .inr ⟨q1, .inr ⟨q2, fun q3 => hne ⟨q1, q2, q3⟩⟩⟩
              · exact .inr ⟨q1, .inl q2⟩
            · exact .inl q1
          clear hne
          rcases key with e1 | ⟨e1, e2 | ⟨e2, e3⟩⟩
          all_goals
            go_upto_region 6 with fail
            go_quiet (fail)
            clear y y' x0 x1 x2 z0 z1 z2
            go_wp2
            go_ret
            exact ⟨false, rfl, fun e => (by cases e), lec HB.out (belN _ _)⟩
      · have hlti : ¬ (j : Int) < (n : Int) := by omega
        obtain rfl : j = n := by omega
        clear R R'
        go_wp2
        go_ret
        refine ⟨true, rfl, fun _ => ?_, HB.out⟩
        apply List.ext_getElem?
        intro i
        by_cases hi : i < j
        · exact HQ.out i hi
        · rw [List.getElem?_eq_none (by have := HN.out; omega), List.getElem?_eq_none (by have := HN'.out; omega)]
  · go_enter Try.func25, Try.ntmps25
    have hnb : ((n : Int) != (n' : Int)) = true := by simp; omega
    go_upto_region 1 with fail
    go_quiet (fail)
    go_wp2
    go_ret
    exact ⟨false, rfl, fun e => (by cases e), belN _ _⟩
end Go.Proofs.Qxb6500776a
