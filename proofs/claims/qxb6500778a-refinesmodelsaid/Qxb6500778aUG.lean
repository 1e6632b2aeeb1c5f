import Derived.Test.Qxb6500778aUE
namespace Go.Proofs.Qxb6500778a
open Go.RowKit

theorem mchg0 (M : MN) (d : Nat) (hp pr ln ix cl : Int) (pm up : Bool) : mchg M ⟨0, d, hp, pr, ln, ix, cl, pm, up⟩ = (if 0 ≤ ixR (M.rt d) pr ln 0 then (M, 6) else if 64 ≤ (M.rt d).length + (M.ac d).length then (M, 8) else ({ M with rt := upd M.rt d (M.rt d ++ [⟨pr, ln, hp⟩]) }, 0)) := rfl
theorem mchg1 (M : MN) (d : Nat) (hp pr ln ix cl : Int) (pm up : Bool) : mchg M ⟨1, d, hp, pr, ln, ix, cl, pm, up⟩ = (if ixR (M.rt d) pr ln 0 < 0 then (M, 7) else ({ M with rt := upd M.rt d ((M.rt d).take (ixR (M.rt d) pr ln 0).toNat ++ (M.rt d).drop ((ixR (M.rt d) pr ln 0).toNat + 1)) }, 0)) := rfl
theorem mchg2 (M : MN) (d ix : Nat) (hp pr ln cl : Int) (pm up : Bool) : mchg M ⟨2, d, hp, pr, ln, ix, cl, pm, up⟩ = (if (M.ac d).length < ix then (M, 7) else if 64 ≤ (M.rt d).length + (M.ac d).length then (M, 8) else ({ M with ac := upd M.ac d ((M.ac d).take ix ++ ⟨pm, pr, ln, cl⟩ :: (M.ac d).drop ix) }, 0)) := rfl
theorem mchg3 (M : MN) (d ix : Nat) (hp pr ln cl : Int) (pm up : Bool) : mchg M ⟨3, d, hp, pr, ln, ix, cl, pm, up⟩ = (if (M.ac d).length ≤ ix then (M, 7) else ({ M with ac := upd M.ac d ((M.ac d).take ix ++ (M.ac d).drop (ix + 1)) }, 0)) := rfl
theorem mchg4 (M : MN) (d e : Nat) (pr ln ix cl : Int) (pm up : Bool) : mchg M ⟨4, d, e, pr, ln, ix, cl, pm, up⟩ = ({ M with lk := upd (upd M.lk d (upd (M.lk d) e up)) e (upd (upd M.lk d (upd (M.lk d) e up) e) d up) }, 0) := rfl
theorem mchg5 (M : MN) (d : Nat) (hp pr ln ix cl : Int) (pm up : Bool) : mchg M ⟨5, d, hp, pr, ln, ix, cl, pm, up⟩ = ({ M with up := upd M.up d up }, 0) := rfl
/-- configm.Net.change -/
theorem mch_any (w : World) (b : Nat) (M : MN) (vr va : Nat → Value) (h : MX w b M vr va) (c : Chg) (hg : GoodC c) (hl : ∀ d, d < 16 → (M.rt d).length + (M.ac d).length ≤ 64) :
    Calls Try.prog 71 #[.pointer (some ⟨b, 0, none⟩), chV c] w (CMPost w b vr va (mchg M c).2 (mchg M c).1) := by
  obtain ⟨kd, dv, hp, pr, ln, ix, cl, pm, up⟩ := c
  obtain ⟨⟨hd0, hd1⟩, hk⟩ := hg
  simp only [] at hd0 hd1 hk
  obtain ⟨d, rfl⟩ : ∃ d : Nat, dv = (d : Int) := ⟨dv.toNat, by omega⟩
  have hd : d < 16 := by omega
  have hl := hl d hd
  rcases hk with ⟨rfl, _⟩ | ⟨rfl, _⟩ | ⟨rfl, _, _, ⟨hx, _⟩, _⟩ | ⟨rfl, _, _, _, ⟨hx, _⟩, _⟩ | ⟨rfl, _, _, ⟨hx, hy⟩, _⟩ | ⟨rfl, _⟩
  · rw [mchg0]
    by_cases h0 : 0 ≤ ixR (M.rt d) pr ln 0
    · have := mch_0bad w b M vr va h d hd hp pr ln ix cl pm up (by omega) (by omega) (.inl h0)
      rw [if_pos h0] at this ⊢
      exact this
    · by_cases h1 : 64 ≤ (M.rt d).length + (M.ac d).length
      · have := mch_0bad w b M vr va h d hd hp pr ln ix cl pm up (by omega) (by omega) (.inr h1)
        rw [if_neg h0] at this ⊢
        rw [if_pos h1]
        exact this
      · rw [if_neg h0, if_neg h1]
        exact mch_0 w b M vr va h d hd hp pr ln ix cl pm up (by omega) (by omega)
  · rw [mchg1]
    by_cases h0 : ixR (M.rt d) pr ln 0 < 0
    · rw [if_pos h0]
      exact mch_1bad w b M vr va h d hd hp pr ln ix cl pm up (by omega) h0
    · rw [if_neg h0]
      exact mch_1 w b M vr va h d hd hp pr ln ix cl pm up (by omega) (by omega)
  · obtain ⟨i, rfl⟩ : ∃ i : Nat, ix = (i : Int) := ⟨ix.toNat, by omega⟩
    rw [mchg2]
    by_cases h0 : (M.ac d).length < i
    · have := mch_2bad w b M vr va h d hd i hp pr ln cl pm up (by omega) (by omega) (.inl h0)
      rw [if_pos h0] at this ⊢
      exact this
    · by_cases h1 : 64 ≤ (M.rt d).length + (M.ac d).length
      · have := mch_2bad w b M vr va h d hd i hp pr ln cl pm up (by omega) (by omega) (.inr h1)
        rw [if_neg h0] at this ⊢
        rw [if_pos h1]
        exact this
      · rw [if_neg h0, if_neg h1]
        exact mch_2 w b M vr va h d hd i hp pr ln cl pm up (by omega) (by omega)
  · obtain ⟨i, rfl⟩ : ∃ i : Nat, ix = (i : Int) := ⟨ix.toNat, by omega⟩
    rw [mchg3]
    by_cases h0 : (M.ac d).length ≤ i
    · rw [if_pos h0]
      exact mch_3bad w b M vr va h d hd i hp pr ln cl pm up h0
    · rw [if_neg h0]
      exact mch_3 w b M vr va h d hd i hp pr ln cl pm up (by omega) (by omega)
  · obtain ⟨e, rfl⟩ : ∃ e : Nat, hp = (e : Int) := ⟨hp.toNat, by omega⟩
    rw [mchg4]
    exact mch_4 w b M vr va h d e hd (by omega) pr ln ix cl pm up
  · rw [mchg5]
    exact mch_5 w b M vr va h d hd hp pr ln ix cl pm up
/-- what holds of the model's configuration -/
def MOk (M : MN) : Prop := ∀ d, d < 16 → (M.rt d).length + (M.ac d).length ≤ 64
theorem mchg_ok {M : MN} (h : MOk M) (c : Chg) (hg : GoodC c) : MOk (mchg M c).1 := by
  obtain ⟨kd, dv, hp, pr, ln, ix, cl, pm, up⟩ := c
  obtain ⟨⟨hd0, hd1⟩, hk⟩ := hg
  simp only [] at hd0 hd1 hk
  obtain ⟨d, rfl⟩ : ∃ d : Nat, dv = (d : Int) := ⟨dv.toNat, by omega⟩
  have hd : d < 16 := by omega
  have hl := h d hd
  have r1 : ∀ L : List Rt, L.length + (M.ac d).length ≤ 64 → MOk { M with rt := upd M.rt d L } := fun L hL k hk => by
    show (upd M.rt d L k).length + (M.ac k).length ≤ 64
    rw [upd_get]
    by_cases e : k = d
    · subst e; rw [if_pos rfl]; exact hL
    · rw [if_neg e]; exact h k hk
  have r2 : ∀ L : List Rl, (M.rt d).length + L.length ≤ 64 → MOk { M with ac := upd M.ac d L } := fun L hL k hk => by
    show (M.rt k).length + (upd M.ac d L k).length ≤ 64
    rw [upd_get]
    by_cases e : k = d
    · subst e; rw [if_pos rfl]; exact hL
    · rw [if_neg e]; exact h k hk
  rcases hk with ⟨rfl, _⟩ | ⟨rfl, _⟩ | ⟨rfl, _, _, ⟨hx, _⟩, _⟩ | ⟨rfl, _, _, _, ⟨hx, _⟩, _⟩ | ⟨rfl, _, _, ⟨hx, hy⟩, _⟩ | ⟨rfl, _⟩
  · rw [mchg0]
    by_cases h0 : 0 ≤ ixR (M.rt d) pr ln 0
    · rw [if_pos h0]; exact h
    · rw [if_neg h0]
      by_cases h1 : 64 ≤ (M.rt d).length + (M.ac d).length
      · rw [if_pos h1]; exact h
      · rw [if_neg h1]
        exact r1 _ (by rw [List.length_append]; simp only [List.length_cons, List.length_nil]; omega)
  · rw [mchg1]
    by_cases h0 : ixR (M.rt d) pr ln 0 < 0
    · rw [if_pos h0]; exact h
    · rw [if_neg h0]
      exact r1 _ (by rw [List.length_append, List.length_take, List.length_drop]; omega)
  · obtain ⟨i, rfl⟩ : ∃ i : Nat, ix = (i : Int) := ⟨ix.toNat, by omega⟩
    rw [mchg2]
    by_cases h0 : (M.ac d).length < i
    · rw [if_pos h0]; exact h
    · rw [if_neg h0]
      by_cases h1 : 64 ≤ (M.rt d).length + (M.ac d).length
      · rw [if_pos h1]; exact h
      · rw [if_neg h1]
        exact r2 _ (by rw [List.length_append, List.length_cons, List.length_take, List.length_drop]; omega)
  · obtain ⟨i, rfl⟩ : ∃ i : Nat, ix = (i : Int) := ⟨ix.toNat, by omega⟩
    rw [mchg3]
    by_cases h0 : (M.ac d).length ≤ i
    · rw [if_pos h0]; exact h
    · rw [if_neg h0]
      exact r2 _ (by rw [List.length_append, List.length_take, List.length_drop]; omega)
  · obtain ⟨e, rfl⟩ : ∃ e : Nat, hp = (e : Int) := ⟨hp.toNat, by omega⟩
    rw [mchg4]; exact h
  · rw [mchg5]; exact h
theorem mrun_ok : ∀ (C : List Chg) (M : MN) (i : Nat), MOk M → (∀ c ∈ C, GoodC c) → MOk (mrun M C i).1
  | [], _, _, h, _ => h
  | c :: C, M, i, h, hg => by
    rw [mrun]
    split
    · exact mrun_ok C _ _ (mchg_ok h c (hg c (List.mem_cons_self ..))) (fun x hx => hg x (List.mem_cons_of_mem _ hx))
    · exact h
theorem mapply_ok {M : MN} (h : MOk M) (id : Int) (C : List Chg) : MOk (mapply M id C).1 := by
  unfold mapply
  split
  · rename_i hc
    split
    · exact mrun_ok C M 0 h (check_ok hc).2.2
    · exact h
  · exact h
end Go.Proofs.Qxb6500778a
