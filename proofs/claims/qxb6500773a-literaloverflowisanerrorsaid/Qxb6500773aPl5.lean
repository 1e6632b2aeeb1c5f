import Derived.Test.Qxb6500773aPl4
namespace Go.Proofs.Qxb6500773a
open Go.RowKit

theorem litP_two (N : Int × Int) (hc : N.2 = 0 ∨ N.2 = 1 ∨ N.2 = 2) (hr : N.2 = 2 → -16777215 ≤ N.1 ∧ N.1 ≤ 16777215) : (litP N).2 = 0 → N.2 = 2 ∧ ((litP N).1 = 0 ∨ LitOk (litP N).1) := fun h => litP_ok hc h hr
/-- The first token of a text: a numeral. -/
theorem one_tok {T : Nat → Int} {n o : Nat} {neg : Bool} {W : List Int} (h : Lies T n o (numL neg W ++ [32, 48, 10])) (hW : W ≠ []) (hd : ∀ x ∈ W, 48 ≤ x ∧ x ≤ 57) :
    o < n ∧ spaceP (T o) = false ∧ T o ≠ 99 ∧ T o ≠ 100 ∧ tokE T n (n - o) o = o + (numL neg W).length ∧ numP T o (o + (numL neg W).length) 16777215 true = numV neg W ∧ T (o + (numL neg W).length) = 32 ∧ o + (numL neg W).length < n ∧ Lies T n (o + (numL neg W).length + 1) [48, 10] ∧ o + (numL neg W).length + 3 ≤ n := by
  have h1 := h.1
  rw [List.length_append] at h1
  simp only [List.length_cons, List.length_nil] at h1
  have hL : Lies T n o ((numL neg W ++ [32]) ++ [48, 10]) := by rw [List.append_assoc]; exact h
  obtain ⟨d, V, hV⟩ : ∃ d V, numL neg W = d :: V := by
    cases hc : numL neg W with
    | nil =>
      unfold numL at hc
      exact absurd (List.append_eq_nil_iff.1 hc).2 hW
    | cons d V => exact ⟨d, V, rfl⟩
  have hdd := numL_tok (neg := neg) hd d (by rw [hV]; simp)
  have e0 : T o = d := h.left.2 0 d (by rw [hV]; rfl)
  have hr := hL.right
  rw [List.length_append] at hr
  refine ⟨by omega, by rw [e0]; exact hdd.1, by rw [e0]; exact hdd.2.1, by rw [e0]; exact hdd.2.2.1, hL.left.tok (fun x hx => (numL_tok hd x hx).1) (by decide), numP_num h.left hW hd, ?_, by omega, hr, by omega⟩
  have := h.right.2 0 32 rfl
  rw [Nat.add_zero] at this
  exact this
theorem drat_one {w w' : World} {T : Nat → Int} {n : Nat} {e : Ending} {neg : Bool} {W : List Int} (hp : PdPost w T n e w') (hn : n = (numL neg W ++ [32, 48, 10]).length) (h : Lies T n 0 (numL neg W ++ [32, 48, 10])) (hW : W ≠ []) (hd : ∀ x ∈ W, 48 ≤ x ∧ x ≤ 57) :
    Below w.heap.size w w' ∧ ((litP (numV neg W)).2 ≠ 0 ∧ e = .returned (.tuple #[.pointer none, faV (litP (numV neg W)).2 1 1]) ∨
      (litP (numV neg W)).2 = 0 ∧ ∃ b va ve vd, e = .returned (.tuple #[.pointer (some ⟨b, 0, none⟩), faV 0 0 0]) ∧ w.heap.size ≤ b ∧ ((litP (numV neg W)).1 ≠ 0 → PF w' w.heap.size b va ve vd [(litP (numV neg W)).1] [1] [false])) := by
  obtain ⟨st, hr, hk, hb, hcase⟩ := hp
  refine ⟨hb, ?_⟩
  obtain ⟨h0, h1, h2, h3, h4, h5, h6, h7, h8, h9⟩ := one_tok h hW hd
  have hs := seek_stop (T := T) (n := n) (p := ⟨0, 1, 0⟩) h0 h1 h2
  have hst : dStep T n dst0 = tok1 T n dst0 ⟨0, 1, 0⟩ := by
    have := dStep_at (T := T) (n := n) [] [] [] false hs
    rw [show dst0 = ⟨⟨0, 1, 0⟩, [], [], [], false⟩ from rfl, this, if_neg (by rw [wordB_not h3]; simp)]
  have hok := litP_two (numV neg W) (numV_cls neg W) (numV_rng hd)
  unfold tok1 at hst
  dsimp only at hst
  rw [h4, h5] at hst
  rw [Nat.zero_add] at h6 h7 h8 h9 hst
  by_cases hz : (litP (numV neg W)).2 = 0
  · right
    have hN2 := (hok hz).1
    rw [if_pos hz, if_pos hN2] at hst
    have hsk : Sk T n ⟨(numL neg W).length, 1, 0⟩ ((numL neg W).length + 1) := (Sk.here T n ⟨(numL neg W).length, 1, 0⟩).space h7 (by show spaceP (T (numL neg W).length) = true; rw [h6]; decide)
    have hend : (numL neg W).length + 1 + 2 = n := by rw [hn, List.length_append]; simp only [List.length_cons, List.length_nil]
    have fin : ∀ (L E : List Int) (D : List Bool) (p2 : Plc), Sk T n p2 ((numL neg W).length + 1 + 2) → pendP L E = false → dStep T n ⟨p2, L, E, D, false⟩ = .done := fun L E D p2 k2 hpd => by
      rw [hend] at k2
      obtain ⟨q, hq⟩ := k2.fin
      unfold dStep
      dsimp only
      rw [hq]
      dsimp only
      rw [if_neg (by decide), hpd]
      rfl
    have done : ∀ s2, Run T n dst0 s2 → dStep T n s2 = .done → ∃ b va ve vd, e = .returned (.tuple #[.pointer (some ⟨b, 0, none⟩), faV 0 0 0]) ∧ w.heap.size ≤ b ∧ PF w' w.heap.size b va ve vd s2.L s2.E s2.D := fun s2 r2 d2 => by
      rcases hcase with ⟨er, ln, col, hbad, -, -⟩ | ⟨hdn, b, va, ve, vd, rfl, hpf, hbb⟩
      · have := hr.det (fun x z => by rw [hbad] at z; cases z) r2 (fun x z => by rw [d2] at z; cases z)
        rw [this, d2] at hbad
        cases hbad
      · have := hr.det (fun x z => by rw [hdn] at z; cases z) r2 (fun x z => by rw [d2] at z; cases z)
        subst this
        exact ⟨b, va, ve, vd, rfl, hbb, hpf⟩
    refine ⟨hz, ?_⟩
    by_cases h10 : (litP (numV neg W)).1 = 0
    · rw [if_pos h10] at hst
      obtain ⟨p2, e2, k2⟩ := end_tok hsk h8 [] [0] [false] false
      obtain ⟨b, va, ve, vd, he, hbb, -⟩ := done _ (.head _ _ _ hst (.head _ _ _ e2 (.refl _))) (fin _ _ _ p2 k2 rfl)
      exact ⟨b, va, ve, vd, he, hbb, fun z => absurd h10 z⟩
    · rw [if_neg h10] at hst
      obtain ⟨p2, e2, k2⟩ := end_tok hsk h8 [(litP (numV neg W)).1] [] [] false
      obtain ⟨b, va, ve, vd, he, hbb, hpf⟩ := done _ (.head _ _ _ hst (.head _ _ _ e2 (.refl _))) (fin _ _ _ p2 k2 (by unfold pendP clsP; rfl))
      exact ⟨b, va, ve, vd, he, hbb, fun _ => hpf⟩
  · left
    rw [if_neg hz] at hst
    have hfin : ∀ x, dStep T n dst0 ≠ .go x := fun x z => by rw [hst] at z; cases z
    rcases hcase with ⟨er, ln, col, hbad, -, rfl⟩ | ⟨hdn, -⟩
    · have := hr.det (fun x z => by rw [hbad] at z; cases z) (.refl _) hfin
      rw [this, hst] at hbad
      cases hbad
      exact ⟨hz, rfl⟩
    · have := hr.det (fun x z => by rw [hdn] at z; cases z) (.refl _) hfin
      rw [this, hst] at hdn
      cases hdn
theorem dimacs_one {w w' : World} {T : Nat → Int} {n : Nat} {e : Ending} {neg : Bool} {W : List Int} (hp : FdPost w T n e w') (hn : n = (hdT 16777215 1 ++ (numL neg W ++ [32, 48, 10])).length) (h : Lies T n 0 (hdT 16777215 1 ++ (numL neg W ++ [32, 48, 10]))) (hW : W ≠ []) (hd : ∀ x ∈ W, 48 ≤ x ∧ x ≤ 57) :
    Below w.heap.size w w' ∧ ((litP (numV neg W)).2 ≠ 0 ∧ e = .returned (.tuple #[.pointer none, faV (litP (numV neg W)).2 2 1]) ∨
      (litP (numV neg W)).2 = 0 ∧ ((litP (numV neg W)).1 = 0 ∧ (∃ ln col, e = .returned (.tuple #[.pointer none, faV 12 ln col])) ∨ (litP (numV neg W)).1 ≠ 0 ∧ ∃ b va ve, e = .returned (.tuple #[.pointer (some ⟨b, 0, none⟩), faV 0 0 0]) ∧ w.heap.size ≤ b ∧ FF w' w.heap.size b va ve 16777215 [(litP (numV neg W)).1] [1])) := by
  obtain ⟨hb, hcase⟩ := hp
  refine ⟨hb, ?_⟩
  obtain ⟨hh, ht10, hlp⟩ := hd_back2 (nv := 16777215) (k := 1) (by decide) (by decide) h.left
  have hR := h.right
  rw [Nat.zero_add] at hR
  have hlen : (hdT 16777215 1).length + ((numL neg W).length + 3) = n := by rw [hn, List.length_append, List.length_append]; simp only [List.length_cons, List.length_nil]
  generalize (hdT 16777215 1).length = k at hh ht10 hlp hR hlen
  obtain ⟨h0, h1, h2, h3, h4, h5, h6, h7, h8, h9⟩ := one_tok hR hW hd
  have hs : seekF T n ⟨k - 1, 1, 0⟩ = (true, ⟨k, 2, k⟩) := by
    rw [seekF_step (by show k - 1 < n; omega), if_pos ht10]
    show seekF T n ⟨k - 1 + 1, 1 + 1, k - 1 + 1⟩ = _
    rw [show k - 1 + 1 = k by omega]
    exact seek_stop h0 h1 h2
  have hst := fStep_at (T := T) (n := n) (hv := 16777215) (hc := 1) [] [] hs
  have hok := litP_two (numV neg W) (numV_cls neg W) (numV_rng hd)
  unfold fTok at hst
  dsimp only at hst
  rw [h4, h5] at hst
  have herr : errP (litP (numV neg W)) (([] : List Int).length : Int) 1 16777215 = (litP (numV neg W)).2 := by
    have hc0 : cntP (litP (numV neg W)) (([] : List Int).length : Int) 1 = (litP (numV neg W)).2 := by unfold cntP; rw [if_neg (fun z => by cases z.2)]
    unfold errP
    rw [hc0, if_neg (fun z => by
      rcases (hok z.1).2 with y | y
      · have := z.2; omega
      · have := z.2; unfold LitOk at y; omega)]
  rw [herr] at hst
  have one : (((1 : Nat) : Int)) = 1 := rfl
  rw [one] at hh
  by_cases hz : (litP (numV neg W)).2 = 0
  · right
    refine ⟨hz, ?_⟩
    have hN2 := (hok hz).1
    rw [if_pos hz, if_pos hN2] at hst
    have hsk : Sk T n ⟨k + (numL neg W).length, 2, k⟩ (k + (numL neg W).length + 1) := (Sk.here T n ⟨k + (numL neg W).length, 2, k⟩).space h7 (by show spaceP (T (k + (numL neg W).length)) = true; rw [h6]; decide)
    by_cases h10 : (litP (numV neg W)).1 = 0
    · left
      refine ⟨h10, ?_⟩
      rw [if_pos h10] at hst
      -- the second token: one clause too many
      have h0' : decI 0 = [48] := by unfold decI; rw [if_neg (by decide), lowD_one (by decide)]; rfl
      have h' : Lies T n (k + (numL neg W).length + 1) (decI 0 ++ [10]) := by rw [h0']; exact h8
      have hte := h'.tok (fun x hx => (decI_nosp x hx).1) (by decide)
      have e0 : T (k + (numL neg W).length + 1) = 48 := h8.2 0 48 rfl
      obtain ⟨q2, hq2, hs2⟩ := hsk.stop (by omega) (by rw [e0]; decide) (by rw [e0]; decide)
      have hbad : fStep T n 16777215 1 ⟨⟨k + (numL neg W).length, 2, k⟩, [], [0]⟩ = .bad 12 q2.line (colP q2) := by
        rw [fStep_at [] [0] hs2]
        unfold fTok
        dsimp only
        rw [hq2, hte, numP_dec h'.left (by decide), show litP ((0 : Int), (2 : Int)) = (0, 0) from rfl]
        rfl
      have r2 : FRun T n 16777215 1 ⟨⟨k - 1, 1, 0⟩, [], []⟩ ⟨⟨k + (numL neg W).length, 2, k⟩, [], [0]⟩ := .head _ _ _ hst (.refl _)
      rcases hcase with ⟨er, ln, col, rfl, -, hbd⟩ | ⟨hv2, hc2, p4, s4, b2, va2, ve2, hh4, hr4, hk4, hdone, -⟩
      · rcases hbd with ⟨p, hh4, -, -⟩ | ⟨hv2, hc2, p4, s4, hh4, hr4, hk4, hbd⟩
        · rw [hh] at hh4; cases hh4
        · rw [hh] at hh4
          cases hh4
          have := hr4.det (fun x z => by rw [hbd] at z; cases z) r2 (fun x z => by rw [hbad] at z; cases z)
          rw [this, hbad] at hbd
          cases hbd
          exact ⟨_, _, rfl⟩
      · rw [hh] at hh4
        cases hh4
        have := hr4.det (fun x z => by rw [hdone] at z; cases z) r2 (fun x z => by rw [hbad] at z; cases z)
        rw [this, hbad] at hdone
        cases hdone
    · right
      refine ⟨h10, ?_⟩
      rw [if_neg h10] at hst
      obtain ⟨p2, e2, k2⟩ := fend_tok (hv := 16777215) (hc := 1) (by decide) hsk h8 [(litP (numV neg W)).1] [] (by decide)
      have hend : k + (numL neg W).length + 1 + 2 = n := by omega
      rw [hend] at k2
      obtain ⟨q, hq⟩ := k2.fin
      have hdn : fStep T n 16777215 1 ⟨p2, [(litP (numV neg W)).1], [1]⟩ = .done := by
        unfold fStep
        dsimp only
        rw [hq]
        dsimp only
        rw [if_neg (by decide), show pendP [(litP (numV neg W)).1] [1] = false from by unfold pendP clsP; rfl, if_neg (by decide), if_pos (by rfl)]
      have r2 : FRun T n 16777215 1 ⟨⟨k - 1, 1, 0⟩, [], []⟩ ⟨p2, [(litP (numV neg W)).1], [1]⟩ := .head _ _ _ hst (.head _ _ _ e2 (.refl _))
      rcases hcase with ⟨er, ln, col, rfl, -, hbd⟩ | ⟨hv2, hc2, p4, s4, b2, va2, ve2, hh4, hr4, hk4, hdone, rfl, hpf, hbb⟩
      · rcases hbd with ⟨p, hh4, -, -⟩ | ⟨hv2, hc2, p4, s4, hh4, hr4, hk4, hbd⟩
        · rw [hh] at hh4; cases hh4
        · rw [hh] at hh4
          cases hh4
          have := hr4.det (fun x z => by rw [hbd] at z; cases z) r2 (fun x z => by rw [hdn] at z; cases z)
          rw [this, hdn] at hbd
          cases hbd
      · rw [hh] at hh4
        cases hh4
        have := hr4.det (fun x z => by rw [hdone] at z; cases z) r2 (fun x z => by rw [hdn] at z; cases z)
        subst this
        exact ⟨b2, va2, ve2, rfl, hbb, hpf⟩
  · left
    rw [if_neg hz] at hst
    have hcol : colP ⟨k, 2, k⟩ = 1 := by unfold colP; show (k : Int) - (k : Int) + 1 = 1; omega
    rw [hcol] at hst
    have hfin : ∀ x, fStep T n 16777215 1 ⟨⟨k - 1, 1, 0⟩, [], []⟩ ≠ .go x := fun x z => by rw [hst] at z; cases z
    rcases hcase with ⟨er, ln, col, rfl, -, hbd⟩ | ⟨hv2, hc2, p4, s4, b2, va2, ve2, hh4, hr4, hk4, hdone, -⟩
    · rcases hbd with ⟨p, hh4, -, -⟩ | ⟨hv2, hc2, p4, s4, hh4, hr4, hk4, hbd⟩
      · rw [hh] at hh4; cases hh4
      · rw [hh] at hh4
        cases hh4
        have := hr4.det (fun x z => by rw [hbd] at z; cases z) (.refl _) hfin
        rw [this, hst] at hbd
        cases hbd
        exact ⟨hz, rfl⟩
    · rw [hh] at hh4
      cases hh4
      have := hr4.det (fun x z => by rw [hdone] at z; cases z) (.refl _) hfin
      rw [this, hst] at hdone
      cases hdone
end Go.Proofs.Qxb6500773a
