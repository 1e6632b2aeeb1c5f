import Derived.Test.Qxb6500778aQ5
namespace Go.Proofs.Qxb6500778a
open Go.RowKit

/-- the model's loop over the changes: fault, place, words read, changes -/
def pLoop (L : List Wd) : Nat → Nat → List Chg → Int × Int × Nat × List Chg
  | 0, i, C => (0, 0, i, C)
  | n + 1, i, C => if (wdAt L i).t = [125] then (0, 0, i, C) else if C.length = 128 then (4, (wdAt L i).q, i, C) else
      if (bestN L i 6).2.2.2.1 = 0 then pLoop L n (i + (bestN L i 6).2.2.1) (C ++ [(bestN L i 6).2.1]) else ((bestN L i 6).2.2.2.1, (bestN L i 6).2.2.2.2, i, C)
/-- configm.Parse, plain -/
def parseW (L : List Wd) : Prs :=
  if (wdAt L 0).t = strL s_batch then
    (if uE false (wdAt L 1).t 999999 = 0 then
      (if (wdAt L 2).t = [123] then
        (if (pLoop L 129 3 []).1 = 0 then
          (if (wdAt L ((pLoop L 129 3 []).2.2.1 + 1)).t = [] then ⟨uV false (wdAt L 1).t 999999, (pLoop L 129 3 []).2.2.2, 0, 0⟩ else ⟨0, [], wrE (wdAt L ((pLoop L 129 3 []).2.2.1 + 1)).t, (wdAt L ((pLoop L 129 3 []).2.2.1 + 1)).q⟩)
         else ⟨0, [], (pLoop L 129 3 []).1, (pLoop L 129 3 []).2.1⟩)
       else ⟨0, [], wrE (wdAt L 2).t, (wdAt L 2).q⟩)
     else ⟨0, [], uE false (wdAt L 1).t 999999, (wdAt L 1).q⟩)
  else ⟨0, [], wrE (wdAt L 0).t, (wdAt L 0).q⟩
theorem kx_iff {m : List Int} (h : Wordy m) (c : Int) (k : Int) (hc : (c = 47 ∧ k = 4) ∨ (c = 123 ∧ k = 5) ∨ (c = 125 ∧ k = 6)) (hk : kOf m = k) : m = [c] := by
  have k03 : k ≠ 0 ∧ k ≠ 1 ∧ k ≠ 2 ∧ k ≠ 3 ∧ k ≠ 7 := by omega
  rcases h with rfl | ⟨d, rfl, hd⟩ | ⟨hne, hall⟩
  · exact absurd hk.symm k03.1
  · unfold kOf at hk
    simp only [] at hk
    rw [if_neg (by rw [hd]; decide)] at hk
    have : d = c := by
      split at hk
      · omega
      · split at hk
        · omega
        · split at hk <;> omega
    rw [this]
  · cases m with
    | nil => exact absurd rfl hne
    | cons d r =>
      rw [List.all_cons, Bool.and_eq_true] at hall
      unfold kOf at hk
      simp only [] at hk
      rw [if_pos hall.1] at hk
      split at hk
      · omega
      · split at hk <;> omega
theorem k0_iff {m : List Int} (h : Wordy m) (hk : kOf m = 0) : m = [] := by
  rcases h with rfl | ⟨d, rfl, hd⟩ | ⟨hne, hall⟩
  · rfl
  · unfold kOf at hk
    simp only [] at hk
    rw [if_neg (by rw [hd]; decide)] at hk
    split at hk
    · cases hk
    · split at hk
      · cases hk
      · split at hk <;> cases hk
  · cases m with
    | nil => rfl
    | cons d r =>
      rw [List.all_cons, Bool.and_eq_true] at hall
      unfold kOf at hk
      simp only [] at hk
      rw [if_pos hall.1] at hk
      split at hk
      · cases hk
      · split at hk <;> cases hk
theorem loopX_off {s : List Int} {x : PSt} (h : x.e ≠ 0) : ∀ (n : Nat) (C : List Chg), loopX s n x C = (x, C)
  | 0, _ => rfl
  | n + 1, C => by rw [loopX, if_neg h]
theorem loop_eq {s : List Int} {L : List Wd} (hb : Byt s) : ∀ (n : Nat) (x : PSt) (i : Nat) (C : List Chg), At s L x i → C.length ≤ 128 → C.length + n = 129 →
    ((pLoop L n i C).1 = 0 → At s L (loopX s n x C).1 (pLoop L n i C).2.2.1 ∧ (wdAt L (pLoop L n i C).2.2.1).t = [125] ∧ (loopX s n x C).2 = (pLoop L n i C).2.2.2) ∧
    ((pLoop L n i C).1 ≠ 0 → Bad (loopX s n x C).1 (pLoop L n i C).1 (pLoop L n i C).2.1)
  | 0, x, i, C, _, h1, h2 => by omega
  | n + 1, x, i, C, h, h1, h2 => by
    rw [pLoop, loopX, if_pos h.e, h.tw.k]
    by_cases k1 : (wdAt L i).t = [125]
    · rw [if_pos k1, if_pos (by rw [k1]; rfl)]
      exact ⟨fun _ => ⟨h, k1, rfl⟩, fun e => absurd rfl e⟩
    · rw [if_neg k1, if_neg (fun e => k1 (kx_iff h.tw.wy 125 6 (.inr (.inr ⟨rfl, rfl⟩)) e))]
      by_cases k2 : C.length = 128
      · rw [if_pos k2, if_pos k2]
        refine ⟨fun e => (by cases e), fun _ => ?_⟩
        unfold failP
        rw [if_pos h.e, h.tw.q]
        exact ⟨rfl, rfl⟩
      · rw [if_neg k2, if_neg k2]
        obtain ⟨c1, c2⟩ := change_eq hb h
        by_cases k3 : (bestN L i 6).2.2.2.1 = 0
        · rw [if_pos k3]
          obtain ⟨d1, d2, _⟩ := c1 k3
          rw [d2]
          exact loop_eq hb n _ _ _ d1 (by rw [List.length_append, List.length_singleton]; omega) (by rw [List.length_append, List.length_singleton]; omega)
        · rw [if_neg k3]
          have hbad := c2 k3
          rw [loopX_off (by rw [hbad.1]; exact k3)]
          exact ⟨fun e => absurd e k3, fun _ => hbad⟩
/-- THE TWO PARSERS AGREE -/
theorem parse_eq {s : List Int} (hb : Byt s) : parseW (wdsP s) = parseP s := by
  have h0 : At s (wdsP s) (advP s x0) 0 := at_next hb (o := 0) (Nat.zero_le _) rfl rfl rfl rfl
  generalize wdsP s = L at *
  have eP : parseP s = if (punctP s 0 (punctP s 6 (loopX s 129 (punctP s 5 (bndP s 2 999999 (wordP s s_batch (advP s x0)))) []).1)).e = 0 then ⟨bndV 2 999999 (wordP s s_batch (advP s x0)), (loopX s 129 (punctP s 5 (bndP s 2 999999 (wordP s s_batch (advP s x0)))) []).2, 0, 0⟩ else ⟨0, [], (punctP s 0 (punctP s 6 (loopX s 129 (punctP s 5 (bndP s 2 999999 (wordP s s_batch (advP s x0)))) []).1)).e, (punctP s 0 (punctP s 6 (loopX s 129 (punctP s 5 (bndP s 2 999999 (wordP s s_batch (advP s x0)))) []).1)).at_⟩ := rfl
  rw [eP]
  have fin : ∀ {x : PSt} {e a : Int}, e ≠ 0 → Bad x e a → (punctP s 0 (punctP s 6 x)).e = e ∧ (punctP s 0 (punctP s 6 x)).at_ = a := fun {x e a} he hx => by
    have ne : x.e ≠ 0 := by rw [hx.1]; exact he
    rw [punct_off ne, punct_off ne]
    exact hx
  unfold parseW
  obtain ⟨a1, a2⟩ := word_at hb h0 kw_batch
  by_cases k0 : (wdAt L 0).t = strL s_batch
  · rw [if_pos k0]
    have h1 := a1 k0
    obtain ⟨b1, b2, b3⟩ := bnd2 hb h1 999999
    by_cases k1 : uE false (wdAt L 1).t 999999 = 0
    · rw [if_pos k1]
      have h2 := b1 k1
      obtain ⟨c1, c2⟩ := punct_at hb h2 (k := 5) (l := [123]) rfl (fun m hm hk => kx_iff hm 123 5 (.inr (.inl ⟨rfl, rfl⟩)) hk) (by decide)
      by_cases k2 : (wdAt L 2).t = [123]
      · rw [if_pos k2]
        have h3 := c1 k2
        obtain ⟨l1, l2⟩ := loop_eq hb 129 _ 3 [] h3 (by decide) rfl
        by_cases k3 : (pLoop L 129 3 []).1 = 0
        · rw [if_pos k3]
          obtain ⟨d1, d2, d3⟩ := l1 k3
          obtain ⟨e1, _⟩ := punct_at hb d1 (k := 6) (l := [125]) rfl (fun m hm hk => kx_iff hm 125 6 (.inr (.inr ⟨rfl, rfl⟩)) hk) (by decide)
          have h5 := e1 d2
          rw [d3]
          have e7 : ∀ x : PSt, x.e = 0 → punctP s 0 x = if x.t.k = 0 then advP s x else unexP x := fun x hx => by unfold punctP; rw [if_pos hx]
          have e8 := e7 _ h5.e
          rw [h5.tw.k] at e8
          rw [e8]
          clear e7 e8
          by_cases k4 : (wdAt L ((pLoop L 129 3 []).2.2.1 + 1)).t = []
          · have e9 : kOf (wdAt L ((pLoop L 129 3 []).2.2.1 + 1)).t = 0 := by rw [k4]; rfl
            rw [if_pos k4]
            simp only [e9, ↓reduceIte, adv_e, h5.e, b2 k1]
          · have e9 : kOf (wdAt L ((pLoop L 129 3 []).2.2.1 + 1)).t ≠ 0 := fun e => k4 (k0_iff h5.tw.wy e)
            have hbad := unex_bad h5
            simp only [e9, ↓reduceIte, k4, hbad.1, hbad.2, wrE_ne]
        · rw [if_neg k3]
          obtain ⟨f1, f2⟩ := fin k3 (l2 k3)
          rw [if_neg (by rw [f1]; exact k3), f1, f2]
      · rw [if_neg k2]
        have hbad := c2 k2
        have ne : (punctP s 5 (bndP s 2 999999 (wordP s s_batch (advP s x0)))).e ≠ 0 := by rw [hbad.1]; exact wrE_ne _
        rw [loopX_off ne]
        obtain ⟨f1, f2⟩ := fin (wrE_ne _) hbad
        rw [if_neg (by rw [f1]; exact wrE_ne _), f1, f2]
    · rw [if_neg k1]
      have hbad := b3 k1
      have ne : (bndP s 2 999999 (wordP s s_batch (advP s x0))).e ≠ 0 := by rw [hbad.1]; exact k1
      rw [punct_off ne, loopX_off ne]
      obtain ⟨f1, f2⟩ := fin k1 hbad
      rw [if_neg (by rw [f1]; exact k1), f1, f2]
  · rw [if_neg k0]
    have hbad := a2 k0
    have ne : (wordP s s_batch (advP s x0)).e ≠ 0 := by rw [hbad.1]; exact wrE_ne _
    rw [bnd_off ne, punct_off ne, loopX_off ne]
    obtain ⟨f1, f2⟩ := fin (wrE_ne _) hbad
    rw [if_neg (by rw [f1]; exact wrE_ne _), f1, f2]
end Go.Proofs.Qxb6500778a
