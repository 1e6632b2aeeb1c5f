import Derived.Test.Qxb6500778aM7
import Derived.Test.Qxb6500778aM8
import Derived.Test.Qxb6500778aM9
namespace Go.Proofs.Qxb6500778a
open Go.RowKit

/-- The list of words closes with an empty one, and no other is empty. -/
def WEnd (L : List Wd) : Prop := ∀ (i : Nat) (x : Wd), L[i]? = some x → x.t ≠ [] → i + 1 < L.length
def wdAt (L : List Wd) (i : Nat) : Wd := (L[i]?).getD ⟨[], 0⟩
theorem wdAt_eq {L : List Wd} {i : Nat} {x : Wd} (h : L[i]? = some x) : wdAt L i = x := by unfold wdAt; rw [h]; rfl
def faE (e q : Int) : Int := if e = 0 then 0 else q
/-- slot, plain: the change, the words taken, the fault -/
def slQ (x : Wd) (f : List Int) (L : List Wd) (i : Nat) (c : Chg) : Chg × Nat × Int × Int :=
  if f = [68] then ({ c with dv := uV true x.t 15 }, 1, uE true x.t 15, faE (uE true x.t 15) x.q) else
  if f = [72] then ({ c with hp := uV true x.t 15 }, 1, uE true x.t 15, faE (uE true x.t 15) x.q) else
  if f = [76] then ({ c with hp := uV true x.t 15 }, 1, lkE x.t c.dv, faE (lkE x.t c.dv) x.q) else
  if f = [73] then ({ c with ix := uV false x.t 63 }, 1, uE false x.t 63, faE (uE false x.t 63) x.q) else
  if f = [65] then ({ c with pm := (x.t == strL ⟨#[112, 101, 114, 109, 105, 116]⟩) }, 1, chE x.t ⟨#[112, 101, 114, 109, 105, 116]⟩ ⟨#[100, 101, 110, 121]⟩, faE (chE x.t ⟨#[112, 101, 114, 109, 105, 116]⟩ ⟨#[100, 101, 110, 121]⟩) x.q) else
  if f = [85] then ({ c with up := (x.t == strL ⟨#[117, 112]⟩) }, 1, chE x.t ⟨#[117, 112]⟩ ⟨#[100, 111, 119, 110]⟩, faE (chE x.t ⟨#[117, 112]⟩ ⟨#[100, 111, 119, 110]⟩) x.q) else
  if f = [67] then (if x.t = strL ⟨#[97, 110, 121]⟩ then ({ c with cl := 16 }, 1, 0, 0) else ({ c with cl := uV false x.t 15 }, 1, uE false x.t 15, faE (uE false x.t 15) x.q)) else
  if f = [80] then (if uE false x.t 255 = 0 then
      (if (wdAt L (i + 1)).t = [47] then ({ { c with pr := uV false x.t 255 } with ln := uV false (wdAt L (i + 2)).t 8 }, 3, pfE x.t (wdAt L (i + 2)).t, if pfE x.t (wdAt L (i + 2)).t = 0 then 0 else if uE false (wdAt L (i + 2)).t 8 = 0 then x.q else (wdAt L (i + 2)).q)
       else ({ c with pr := uV false x.t 255 }, 0, wrE (wdAt L (i + 1)).t, (wdAt L (i + 1)).q))
    else ({ c with pr := uV false x.t 255 }, 0, uE false x.t 255, x.q)) else
  (c, 1, if (x.t == f) = true then 0 else wrE x.t, if (x.t == f) = true then 0 else x.q)
def slP (f : List Int) (L : List Wd) (i : Nat) (c : Chg) : Chg × Nat × Int × Int := slQ (wdAt L i) f L i c
theorem dg_ne {l : List Int} (h : dgB l = true) : l ≠ [] := fun e => by subst e; cases h
theorem uOk_ne {r : Bool} {l : List Int} (h : uOk r l = true) : l ≠ [] := fun e => by
  subst e
  unfold uOk uRest at h
  cases r
  · simp only [Bool.and_eq_true] at h
    exact dg_ne h.2 rfl
  · cases h
theorem uE_ne {r : Bool} {l : List Int} {m : Int} (h : uE r l m = 0) : l ≠ [] := by
  unfold uE at h
  split at h
  · rename_i h1; exact uOk_ne h1
  · exact absurd h (wrE_ne l)
theorem lkE_ne {l : List Int} {d : Int} (h : lkE l d = 0) : l ≠ [] := by
  unfold lkE at h
  split at h
  · rename_i h1; exact uE_ne h1
  · exact uE_ne h
theorem chE_ne {l : List Int} {y z : ByteArray} (hy : strL y ≠ []) (hz : strL z ≠ []) (h : chE l y z = 0) : l ≠ [] := by
  unfold chE at h
  split at h
  · rename_i h1; have := eq_of_beq h1; rw [this]; exact hy
  · split at h
    · rename_i h1; have := eq_of_beq h1; rw [this]; exact hz
    · exact absurd h (wrE_ne l)
theorem pfE_ne {l m : List Int} (h : pfE l m = 0) : m ≠ [] := by
  unfold pfE at h
  split at h
  · rename_i h1; exact uE_ne h1
  · exact uE_ne h
/-- the places of the words that a field takes -/
theorem slP_in {f : List Int} {L : List Wd} {i : Nat} {c : Chg} (hE : WEnd L) (hi : i < L.length) (hf : f ≠ []) (h : (slP f L i c).2.2.1 = 0) : i + (slP f L i c).2.1 < L.length := by
  obtain ⟨x, hx⟩ : ∃ x, L[i]? = some x := ⟨_, List.getElem?_eq_getElem hi⟩
  have ex := wdAt_eq hx
  have go1 : x.t ≠ [] → i + 1 < L.length := fun hne => hE i x hx hne
  unfold slP at h ⊢
  rw [ex] at h ⊢
  delta slQ at h ⊢
  dsimp only at h ⊢
  by_cases k1 : f = [68]
  · rw [if_pos k1] at h ⊢
    exact go1 (uE_ne h)
  · rw [if_neg k1] at h ⊢
    by_cases k2 : f = [72]
    · rw [if_pos k2] at h ⊢
      exact go1 (uE_ne h)
    · rw [if_neg k2] at h ⊢
      by_cases k3 : f = [76]
      · rw [if_pos k3] at h ⊢
        exact go1 (lkE_ne h)
      · rw [if_neg k3] at h ⊢
        by_cases k4 : f = [73]
        · rw [if_pos k4] at h ⊢
          exact go1 (uE_ne h)
        · rw [if_neg k4] at h ⊢
          by_cases k5 : f = [65]
          · rw [if_pos k5] at h ⊢
            exact go1 (chE_ne (by decide) (by decide) h)
          · rw [if_neg k5] at h ⊢
            by_cases k6 : f = [85]
            · rw [if_pos k6] at h ⊢
              exact go1 (chE_ne (by decide) (by decide) h)
            · rw [if_neg k6] at h ⊢
              by_cases k7 : f = [67]
              · rw [if_pos k7] at h ⊢
                by_cases ka : x.t = strL ⟨#[97, 110, 121]⟩
                · rw [if_pos ka] at h ⊢
                  exact go1 (by rw [ka]; decide)
                · rw [if_neg ka] at h ⊢
                  exact go1 (uE_ne h)
              · rw [if_neg k7] at h ⊢
                by_cases k8 : f = [80]
                · rw [if_pos k8] at h ⊢
                  by_cases ka : uE false x.t 255 = 0
                  · rw [if_pos ka] at h ⊢
                    have h1 := go1 (uE_ne ka)
                    obtain ⟨y, hy⟩ : ∃ y, L[i + 1]? = some y := ⟨_, List.getElem?_eq_getElem h1⟩
                    rw [wdAt_eq hy] at h ⊢
                    by_cases kb : y.t = [47]
                    · rw [if_pos kb] at h ⊢
                      have h2 := hE (i + 1) y hy (by rw [kb]; decide)
                      obtain ⟨z, hz⟩ : ∃ z, L[i + 2]? = some z := ⟨_, List.getElem?_eq_getElem h2⟩
                      rw [wdAt_eq hz] at h
                      exact hE (i + 2) z hz (pfE_ne h)
                    · rw [if_neg kb] at h
                      exact absurd h (wrE_ne _)
                  · rw [if_neg ka] at h
                    exact absurd h ka
                · rw [if_neg k8] at h ⊢
                  by_cases ka : (x.t == f) = true
                  · have := eq_of_beq ka
                    exact go1 (by rw [this]; exact hf)
                  · rw [if_neg ka] at h
                    exact absurd h (wrE_ne _)
set_option maxRecDepth 100000 in
/-- configm.slot -/
theorem slot_any (w : World) (g vc n q : Nat) (L : List Wd) (c : Chg) (i : Nat) (f : List Int) (h : WS w g vc n q L c) (hE : WEnd L) (hi : i < L.length) (hb : Byt f) :
    Calls Try.prog 67 #[.string (strOfNums f), .slice (some ⟨g, 0, none⟩) n vc, .int .i64 i, .pointer (some ⟨q, 0, none⟩)] w (SlPost w q (slP f L i c).1 ((slP f L i c).2.1 : Nat) (slP f L i c).2.2.1 (slP f L i c).2.2.2) := by
  obtain ⟨x, hx⟩ : ∃ x, L[i]? = some x := ⟨_, List.getElem?_eq_getElem hi⟩
  have ex := wdAt_eq hx
  unfold slP
  rw [ex]
  delta slQ
  dsimp only
  by_cases k1 : f = [68]
  · rw [if_pos k1]
    subst k1
    exact slot_D w g vc n q L c i x h hx
  · rw [if_neg k1]
    by_cases k2 : f = [72]
    · rw [if_pos k2]
      subst k2
      exact slot_H w g vc n q L c i x h hx
    · rw [if_neg k2]
      by_cases k3 : f = [76]
      · rw [if_pos k3]
        subst k3
        exact slot_L w g vc n q L c i x h hx
      · rw [if_neg k3]
        by_cases k4 : f = [73]
        · rw [if_pos k4]
          subst k4
          exact slot_I w g vc n q L c i x h hx
        · rw [if_neg k4]
          by_cases k5 : f = [65]
          · rw [if_pos k5]
            subst k5
            exact slot_A w g vc n q L c i x h hx
          · rw [if_neg k5]
            by_cases k6 : f = [85]
            · rw [if_pos k6]
              subst k6
              exact slot_U w g vc n q L c i x h hx
            · rw [if_neg k6]
              by_cases k7 : f = [67]
              · rw [if_pos k7]
                subst k7
                by_cases ka : x.t = strL ⟨#[97, 110, 121]⟩
                · rw [if_pos ka]
                  exact slot_Cany w g vc n q L c i x ka h hx
                · rw [if_neg ka]
                  exact slot_Cnum w g vc n q L c i x ka h hx
              · rw [if_neg k7]
                by_cases k8 : f = [80]
                · rw [if_pos k8]
                  subst k8
                  by_cases ka : uE false x.t 255 = 0
                  · rw [if_pos ka]
                    have h1 := hE i x hx (uE_ne ka)
                    obtain ⟨y, hy⟩ : ∃ y, L[i + 1]? = some y := ⟨_, List.getElem?_eq_getElem h1⟩
                    rw [wdAt_eq hy]
                    by_cases kb : y.t = [47]
                    · rw [if_pos kb]
                      have h2 := hE (i + 1) y hy (by rw [kb]; decide)
                      obtain ⟨z, hz⟩ : ∃ z, L[i + 2]? = some z := ⟨_, List.getElem?_eq_getElem h2⟩
                      rw [wdAt_eq hz]
                      exact slot_P3 w g vc n q L c i x y z ka kb hy hz h hx
                    · rw [if_neg kb]
                      exact slot_P2 w g vc n q L c i x y ka kb hy h hx
                  · rw [if_neg ka]
                    exact slot_P1 w g vc n q L c i x ka h hx
                · rw [if_neg k8]
                  have e := strL_of hb
                  have ne : ∀ d : UInt8, f ≠ [(d.toNat : Int)] → ((strOfNums f).toList == [d]) = false := fun d hd => by
                    rw [str_eq, e]
                    exact beq_eq_false_iff_ne.2 hd
                  have := slot_W w g vc n q L c i x (strOfNums f) ⟨ne 68 k1, ne 72 k2, ne 76 k3, ne 73 k4, ne 65 k5, ne 85 k6, ne 67 k7, ne 80 k8⟩ h hx
                  rw [e] at this
                  exact this
/-- match, plain -/
def mtP (L : List Wd) : List (List Int) → Nat → Chg → Nat → Nat → Chg × Nat × Nat × Int × Int
  | [], _, c, r, tk => (c, tk, r, 0, 0)
  | f :: fs, j, c, r, tk => if (slP f L j c).2.2.1 = 0 then mtP L fs (j + (slP f L j c).2.1) (slP f L j c).1 (r + 1) (tk + (slP f L j c).2.1) else ((slP f L j c).1, tk, r, (slP f L j c).2.2.1, (slP f L j c).2.2.2)
def mtK (L : List Wd) (k : Int) (i : Nat) : Chg × Nat × Nat × Int × Int := mtP L (shF k) i { Chg.zero with kd := k } 0 0
end Go.Proofs.Qxb6500778a
