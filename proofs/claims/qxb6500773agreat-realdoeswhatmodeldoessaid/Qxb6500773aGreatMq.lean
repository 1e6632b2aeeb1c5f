import Derived.Test.Qxb6500773aGreatMp
namespace Go.Proofs.Qxb6500773aGreat
open Go.RowKit

def slLen : Value → Nat
  | .slice _ n _ => n
  | _ => 0
/-- without the leading noughts -/
def sgM : List Int → List Int
  | [] => []
  | x :: X => if x = 48 then sgM X else x :: X
theorem UL.tlc {w : World} {g o c : Nat} {x : Int} {C : List Int} (h : UL w (some ⟨g, o, none⟩) (x :: C)) (hc : (x :: C).length ≤ c) : UL w (if c = 1 then some ⟨g, o, none⟩ else some ⟨g, o + 1, none⟩) C := by
  split
  · subst c
    cases C with
    | nil => exact fun j y hy => by simp at hy
    | cons z C => simp at hc
  · intro j y hy
    obtain ⟨g', o', e, hc⟩ := h (j + 1) y (by rw [List.getElem?_cons_succ]; exact hy)
    cases e
    exact ⟨g, o + 1, rfl, by rw [Nat.add_assoc, Nat.add_comm 1 j]; exact hc⟩
def SgPost (w : World) (Z : List Int) (e : Ending) (w' : World) : Prop := ∃ a c, e = .returned (.slice a Z.length c) ∧ UL w a Z ∧ Z.length ≤ c ∧ c ≤ maxLen ∧ w' = w
set_option linter.unusedSimpArgs false in
set_option maxRecDepth 100000 in
set_option maxHeartbeats 8000000 in
/-- cnfm.significant -/
theorem significantM_any (w : World) (a : Option Addr) (c : Nat) (X : List Int) (h : UL w a X) (hc : X.length ≤ c) (hm : c ≤ maxLen) :
    Calls Tryz.prog 158 #[.slice a X.length c] w (SgPost w (sgM X)) := by
  have HX := hide h
  clear h
  obtain ⟨Z, hZ⟩ : ∃ Z, sgM X = Z := ⟨_, rfl⟩
  have HZ := hide hZ
  rw [hZ]
  clear hZ
  unfold maxLen at hm
  have HPo : Hid (∀ (Y : List Int) a' c', Y = Z → UL w a' Y → Y.length ≤ c' → c' ≤ 2 ^ 63 - 1 → SgPost w Z (.returned (.slice a' Y.length c')) w) := fun Y a' c' e h1 h2 h3 => by subst e; exact ⟨a', c', rfl, h1, h2, h3, rfl⟩
  generalize SgPost w Z = R at *
  go_enter Tryz.func158, Tryz.ntmps158
  go_wp2_with fail
  go_loopw [0] (fun s0 wx => ∃ (Y : List Int) (n c' : Nat) (a' : Option Addr), s0 = .slice a' n c' ∧ Hid (Y.length = n) ∧ Hid (sgM Y = Z) ∧ Hid (UL w a' Y) ∧ n ≤ c' ∧ c' ≤ 2 ^ 63 - 1 ∧ w = wx) (fun s0 _ => slLen s0)
  case atStart => exact ⟨X, _, _, _, rfl, rfl, HZ, HX, hc, hm, rfl⟩
  case round =>
    clear HZ HX
    obtain ⟨Y, n, c', a', rfl, HN, HZ, HY, hnc, hcm, rfl⟩ := hrel
    cases Y with
    | nil =>
      have hn0 : n = 0 := by rw [← HN.out]; rfl
      subst hn0
      have HPO := hide (HPo.out [] a' c' HZ.out HY.out (Nat.zero_le _) hcm)
      clear HPo HN HZ HY
      go_wp2_with (with_reducible refine bodyPost_ret (v := .slice a' 0 c') ?hr ?hd ?hp)
      case hr => simp [results, Tryz.results158, go_sem]
      case hd => rfl
      case hp => exact HPO.out
    | cons x Y =>
      obtain ⟨g, o, ea, x0⟩ := HY.out 0 x rfl
      subst ea
      rw [Nat.add_zero] at x0
      obtain ⟨k, hk⟩ : ∃ k, Y.length = k := ⟨_, rfl⟩
      have hn1 : n = k + 1 := by rw [← HN.out, List.length_cons, hk]
      subst hn1
      have HK := hide hk
      clear hk
      have t1 : decide ((0 : Int) < ((k + 1 : Nat) : Int)) = true := decide_eq_true (by omega)
      have t2 : (0 : Int) < ((k + 1 : Nat) : Int) := by omega
      have HS : Hid ((if x = 48 then sgM Y else x :: Y) = Z) := HZ.out
      by_cases hx : x = 48
      · have hb : (x == 48) = true := by simp [hx]
        rw [if_pos hx] at HS
        have HU := hide (HY.out.tlc (by rw [HN.out]; exact hnc))
        clear hx HZ HN
        go_wp2
        all_goals (go_roundw)
        all_goals first | (case rel => exact ⟨Y, k, c' - 1, _, rfl, HK, HS, HU, by omega, by omega, trivial⟩) | skip
        all_goals first | (case measure => (simp [slLen]; try omega)) | skip
      · have hb : (x == 48) = false := by simp [hx]
        rw [if_neg hx] at HS
        have HPO := hide (HPo.out (x :: Y) _ c' HS.out HY.out (by rw [HN.out]; exact hnc) hcm)
        rw [HN.out] at HPO
        clear HPo HN HZ HY hx
        go_wp2_with (with_reducible refine bodyPost_ret (v := .slice (some ⟨g, o, none⟩) (k + 1) c') ?hr ?hd ?hp)
        case hr => simp [results, Tryz.results158, go_sem]
        case hd => rfl
        case hp => exact HPO.out
end Go.Proofs.Qxb6500773aGreat
