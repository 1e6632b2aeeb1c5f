import Derived.Test.Qxb6500778aPS
namespace Go.Proofs.Qxb6500778a
open Go.RowKit

def SomeBool (w : World) (e : Ending) (w' : World) : Prop := ∃ b : Bool, e = .returned (.bool b) ∧ w' = w
theorem isSpace_any (w : World) (z : Int) : Calls Try.prog 83 #[.int .u8 z] w (SomeBool w) := by
  go_enter Try.func83, Try.ntmps83
  go_wp2
  all_goals
    go_ret
    exact ⟨_, rfl, rfl⟩
theorem isDigit_any (w : World) (z : Int) : Calls Try.prog 84 #[.int .u8 z] w fun e w' => e = .returned (.bool (decide (48 ≤ z ∧ z ≤ 57))) ∧ w' = w := by
  go_enter Try.func84, Try.ntmps84
  by_cases h1 : 48 ≤ z <;> by_cases h2 : z ≤ 57
  all_goals
    go_wp2
    all_goals
      go_ret
      exact ⟨by simp [h1, h2] <;> omega, rfl⟩
def wordB (z : Int) : Bool := decide (48 ≤ z ∧ z ≤ 57) || decide (97 ≤ z ∧ z ≤ 122)
theorem isWordByte_any (w : World) (z : Int) : Calls Try.prog 73 #[.int .u8 z] w fun e w' => e = .returned (.bool (wordB z)) ∧ w' = w := by
  go_enter Try.func73, Try.ntmps73
  go_wp2_with fail
  refine (isDigit_any _ z).mono ?_
  rintro e w' ⟨rfl, rfl⟩
  by_cases h0 : 48 ≤ z ∧ z ≤ 57
  · have HW : Hid (wordB z = true) := by show wordB z = true; simp [wordB, h0]
    rw [decide_eq_true h0]
    clear h0
    go_wp2
    go_ret
    exact ⟨by rw [HW.out]; rfl, rfl⟩
  · rw [decide_eq_false h0]
    by_cases h1 : 97 ≤ z <;> by_cases h2 : z ≤ 122
    all_goals
      have HW : Hid (wordB z = (decide (97 ≤ z) && decide (z ≤ 122))) := by show wordB z = _; simp [wordB, h0, h1, h2]
      clear h0
      go_wp2
      all_goals
        go_ret
        exact ⟨by rw [HW.out]; simp [h1, h2] <;> omega, rfl⟩
def posLeft (p n : Nat) (w : World) : Nat := match w.cell? ⟨p, 1, none⟩ with
  | some (.int _ z) => n - z.toNat
  | _ => 0
theorem posLeft_of {w : World} {p n pos : Nat} (h : w.cell? ⟨p, 1, none⟩ = some (.int .i64 (pos : Nat))) : posLeft p n w = n - pos := by
  unfold posLeft; rw [h]; simp
set_option maxHeartbeats 4000000 in
theorem skip_any (w : World) (p : Nat) (a : Option Addr) (n c pos : Nat) (k tp : Int) (s : ByteArray) (v er at_ : Int) (h : PS w p a n c pos k tp s v er at_) :
    Calls Try.prog 72 #[.pointer (some ⟨p, 0, none⟩)] w fun e w' => e = .returned (.tuple #[]) ∧ (∃ pos', PS w' p a n c pos' k tp s v er at_) ∧ Ex (Is p) w w' := by
  have HP0 := hide h
  clear h
  go_enter Try.func72, Try.ntmps72
  go_wp2_with fail
  go_loopw [2] (fun _ wr => ∃ pos, PS wr p a n c pos k tp s v er at_ ∧ Ex (Is p) w wr) (fun _ wr => posLeft p n wr)
  case atStart => exact ⟨pos, HP0.out, Ex.refl _ _⟩
  case round =>
    clear HP0 pos
    obtain ⟨pos, hps, hex⟩ := hrel
    have HP := hide hps
    have HE := hide hex
    have c0 := hps.c0
    have c1 := hps.c1
    have hn16 := hps.n16
    have HM := hide (posLeft_of (n := n) c1)
    clear hps hex
    by_cases hlt : pos < n
    · obtain ⟨b, off, z, rfl, hcb, hz0, hz1⟩ := HP.out.by_ pos hlt
      go_upto_region 0 with fail
      go_quiet (fail)
      replace HP := hide (HP.out.drewN nq)
      replace HE := hide (HE.out.drewN nq)
      replace hcb : (wr.drewN nq).cell? ⟨b, off + pos, none⟩ = some (.int .u8 z) := hcb
      clear c0 c1
      generalize wr.drewN nq = w1 at *
      clear nq
      have c0 := HP.out.c0
      have c1 := HP.out.c1
      go_upto_region 1 with fail
      go_quiet (fail)
      replace HP := hide (HP.out.drewN nq)
      replace HE := hide (HE.out.drewN nq)
      replace hcb : (w1.drewN nq).cell? ⟨b, off + pos, none⟩ = some (.int .u8 z) := hcb
      clear c0 c1
      generalize w1.drewN nq = w2 at *
      clear nq
      have c0 := HP.out.c0
      have c1 := HP.out.c1
      by_cases hz : z = 35
      · subst hz
        go_wp2
        go_loopw [47] (fun _ wx => ∃ pos', pos ≤ pos' ∧ PS wx p (some ⟨b, off, none⟩) n c pos' k tp s v er at_ ∧ Ex (Is p) w wx ∧ wx.cell? ⟨b, off + pos, none⟩ = some (.int .u8 35)) (fun _ wr => posLeft p n wr)
        case atStart => exact ⟨pos, Nat.le_refl _, HP.out, HE.out, hcb⟩
        case round =>
          have hbp := HP.out.low (by omega) b off rfl
          clear HP HE c0 c1 hcb
          obtain ⟨pos', hpp, hps, hex, hcb⟩ := hrel
          have HP := hide hps
          have HE := hide hex
          have HCB := hide hcb
          have c0 := hps.c0
          have c1 := hps.c1
          have f1 := hps.fr 1
          have HM2 := hide (posLeft_of (n := n) c1)
          clear hps hex hcb
          by_cases hlt2 : pos' < n
          · obtain ⟨_, _, z', ee, hcb, hz0', hz1'⟩ := HP.out.by_ pos' hlt2
            injection ee with ee
            injection ee with ee1 ee2
            subst ee1 ee2
            by_cases hz' : z' = 10
            · subst hz'
              have HLt : Hid (pos < pos') := by
                show pos < pos'
                rcases Nat.lt_or_ge pos pos' with q | q
                · exact q
                · have : pos' = pos := by omega
                  subst this
                  rw [HCB.out] at hcb
                  cases hcb
              go_upto_region 3 with fail
              go_quiet (fail)
              replace HP := hide (HP.out.drewN nq)
              replace HE := hide (HE.out.drewN nq)
              go_wp2
              go_roundw
              case rel => exact ⟨pos', HP.out, HE.out⟩
              case measure =>
                show posLeft p n (wr.drewN nq) < _
                rw [HM.out, posLeft_of HP.out.c1]
                have := HLt.out
                omega
            · have hzb : (z' != 10) = true := by simp [hz']
              go_upto_region 3 with fail
              go_quiet (fail)
              replace HP := hide (HP.out.drewN nq)
              replace HE := hide (HE.out.drewN nq)
              replace HCB : Hid ((wr.drewN nq).cell? ⟨b, off + pos, none⟩ = some (.int .u8 35)) := HCB.out
              have HN := hide (HP.out.put1 (pos' := pos' + 1) (by omega))
              go_wp2
              go_roundw
              case rel => exact ⟨pos' + 1, by omega, HN.out, HE.out.set rfl _, by rw [World.cell?_setCell_other _ _ _ _ (by simp <;> omega)]; exact HCB.out⟩
              case measure =>
                show posLeft p n _ < posLeft p n wr
                rw [HM2.out]
                exact Nat.lt_of_le_of_lt (Nat.le_of_eq (posLeft_of (n := n) HN.out.c1)) (by omega)
          · go_upto_region 3 with fail
            go_quiet (fail)
            replace HP := hide (HP.out.drewN nq)
            replace HE := hide (HE.out.drewN nq)
            go_wp2
            go_roundw
            case rel => exact ⟨pos', HP.out, HE.out⟩
            case measure =>
              show posLeft p n (wr.drewN nq) < _
              rw [HM.out, posLeft_of HP.out.c1]
              omega
      · have hzb : (z == 35) = false := by simp [hz]
        have f1 := HP.out.fr 1
        go_wp2_with fail
        refine (isSpace_any _ z).mono ?_
        rintro e w' ⟨bb, rfl, rfl⟩
        cases bb
        · go_wp2
          exact bodyPost_ret (v := .tuple #[]) (by simp [results, Try.results72, go_sem]) rfl ⟨rfl, ⟨pos, HP.out⟩, HE.out⟩
        · have HN := hide (HP.out.put1 (pos' := pos + 1) (by omega))
          go_wp2
          go_roundw
          case rel => exact ⟨pos + 1, HN.out, HE.out.set rfl _⟩
          case measure =>
            show posLeft p n _ < posLeft p n wr
            rw [HM.out]
            exact Nat.lt_of_le_of_lt (Nat.le_of_eq (posLeft_of (n := n) HN.out.c1)) (by omega)
    · go_upto_region 0 with fail
      go_quiet (fail)
      replace HP := hide (HP.out.drewN nq)
      replace HE := hide (HE.out.drewN nq)
      go_wp2
      go_end0
      exact ⟨rfl, ⟨pos, HP.out⟩, HE.out⟩
end Go.Proofs.Qxb6500778a
