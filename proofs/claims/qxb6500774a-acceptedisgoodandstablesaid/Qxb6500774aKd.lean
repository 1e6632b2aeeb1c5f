import Derived.Test.Qxb6500774aKd1
import Derived.Test.Qxb6500774aKd2
import Derived.Test.Qxb6500774aKd3
import Derived.Test.Qxb6500774aKd4
import Derived.Test.Qxb6500774aKd5
import Derived.Test.Qxb6500774aKd6
namespace Go.Proofs.Qxb6500774a
open Go.RowKit
set_option linter.unusedVariables false
set_option linter.unusedSimpArgs false
variable {R : Nat → Option Value}

/-- lexer.next -/
theorem nextK_any (w : World) (p : Nat) (a : Option Addr) (cp : Nat) (s : List Int) (q : Pl) (h : LX R w p a cp s q) (hq : PlOk s q) (hl : s.length ≤ 1048576) :
    Calls Try.prog 70 #[.pointer (some ⟨p, 0, none⟩)] w (NxPost R w p a cp s (nextP s q)) := by
  obtain ⟨⟨cb, q1⟩, hsk⟩ : ∃ r, skP s q = r := ⟨_, rfl⟩
  unfold nextP
  rw [hsk]
  cases cb
  · rw [if_neg (by simp)]
    exact nextK_open w p a cp s q q1 h hq hl hsk
  · rw [if_pos rfl]
    dsimp only
    unfold nx2
    by_cases hE : s.length ≤ q1.o
    · rw [if_pos hE]
      exact nextK_end w p a cp s q q1 h hq hl hsk hE
    · rw [if_neg hE]
      obtain ⟨c, hc⟩ : ∃ c, s[q1.o]? = some c := ⟨_, List.getElem?_eq_getElem (by omega)⟩
      have hb : byP s (q1.o : Int) = c := byP_at hc
      rw [hb]
      cases hd : dgP c
      · rw [if_neg (by simp)]
        cases hlc : ltP c
        · rw [if_pos rfl]
          exact nextK_mark w p a cp s q q1 h hq hl hsk c hc hd hlc
        · rw [if_neg (by simp)]
          by_cases hT : run1 s q1.o = [84] ∧ byP s ((q1.o + 1 : Nat) : Int) = 35
          · rw [if_pos hT]
            exact nextK_time w p a cp s q q1 h hq hl hsk c hc hd hlc hT.1 hT.2
          · rw [if_neg hT]
            exact nextK_word w p a cp s q q1 h hq hl hsk c hc hd hlc hT
      · rw [if_pos rfl]
        exact nextK_num w p a cp s q q1 h hq hl hsk c hc hd
end Go.Proofs.Qxb6500774a
