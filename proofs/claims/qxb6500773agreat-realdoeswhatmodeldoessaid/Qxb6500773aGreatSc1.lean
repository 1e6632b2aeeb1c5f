import Derived.Test.Qxb6500773aGreatMem
namespace Go.Proofs.Qxb6500773aGreat
open Go.RowKit

/-! ### Bytes and the scanner's place -/
/-- n bytes behind a slice. -/
def BT (w : World) (a : Option Addr) (n : Nat) (T : Nat → Int) : Prop := ∀ i, i < n → ∃ g off, a = some ⟨g, off, none⟩ ∧ w.cell? ⟨g, off + i, none⟩ = some (.int .u8 (T i)) ∧ 0 ≤ T i ∧ T i < 256
theorem BT.keep {w w' : World} {a : Option Addr} {n : Nat} {T : Nat → Int} (h : BT w a n T) {S : Nat → Prop} (k : Ex S w w') (hs : 0 < n → ∀ g off, a = some ⟨g, off, none⟩ → ¬ S g) : BT w' a n T := fun i hi => by
  obtain ⟨g, off, e, h1, h2⟩ := h i hi
  exact ⟨g, off, e, k.cell (hs (by omega) g off e) h1, h2⟩
theorem BT.below {w w' : World} {a : Option Addr} {n : Nat} {T : Nat → Int} (h : BT w a n T) (k : Below w.heap.size w w') : BT w' a n T := h.keep (Ex.of (S := fun _ => False) k) (fun _ _ _ _ e => e)
def blankP (b : Int) : Bool := b == 32 || (b == 9 || b == 13)
def spaceP (b : Int) : Bool := b == 10 || blankP b
def digitP (b : Int) : Bool := decide (48 ≤ b) && decide (b ≤ 57)
set_option maxHeartbeats 2000000 in
/-- cnf.isBlank -/
theorem isBlank_any (w : World) (b : Int) : Calls Tryz.prog 152 #[.int .u8 b] w fun e w' => e = .returned (.bool (blankP b)) ∧ w' = w := by
  unfold blankP
  cases h1 : (b == 32)
  · cases h2 : (b == 9)
    · cases h3 : (b == 13)
      all_goals
        go_enter Tryz.func152, Tryz.ntmps152
        go_wp2
        go_ret
        exact ⟨rfl, rfl⟩
    · go_enter Tryz.func152, Tryz.ntmps152
      go_wp2
      go_ret
      exact ⟨rfl, rfl⟩
  · go_enter Tryz.func152, Tryz.ntmps152
    go_wp2
    go_ret
    exact ⟨rfl, rfl⟩
set_option maxHeartbeats 2000000 in
/-- cnf.isSpace -/
theorem isSpace_any (w : World) (b : Int) : Calls Tryz.prog 161 #[.int .u8 b] w fun e w' => e = .returned (.bool (spaceP b)) ∧ w' = w := by
  unfold spaceP
  cases h1 : (b == 10)
  · go_enter Tryz.func161, Tryz.ntmps161
    go_wp2_with fail
    refine (isBlank_any _ b).mono ?_
    rintro e w' ⟨rfl, rfl⟩
    go_wp2
    go_ret
    exact ⟨rfl, rfl⟩
  · go_enter Tryz.func161, Tryz.ntmps161
    go_wp2
    go_ret
    exact ⟨rfl, rfl⟩
set_option maxHeartbeats 2000000 in
/-- cnf.isDigit -/
theorem isDigit_any (w : World) (b : Int) : Calls Tryz.prog 160 #[.int .u8 b] w fun e w' => e = .returned (.bool (digitP b)) ∧ w' = w := by
  unfold digitP
  cases h1 : decide (48 ≤ b)
  · go_enter Tryz.func160, Tryz.ntmps160
    go_wp2
    go_ret
    exact ⟨rfl, rfl⟩
  · go_enter Tryz.func160, Tryz.ntmps160
    go_wp2
    go_ret
    exact ⟨rfl, rfl⟩
/-- The scanner: its text, its place. -/
structure SC (w : World) (s : Nat) (a : Option Addr) (n c : Nat) (T : Nat → Int) (off : Nat) (line : Int) (bol : Nat) : Prop where
  c0 : w.cell? ⟨s, 0, none⟩ = some (.slice a n c)
  c1 : w.cell? ⟨s, 1, none⟩ = some (.int .i64 off)
  c2 : w.cell? ⟨s, 2, none⟩ = some (.int .i64 line)
  c3 : w.cell? ⟨s, 3, none⟩ = some (.int .i64 bol)
  f : ∀ j, w.frozen? ⟨s, j, none⟩ = false
  bt : BT w a n T
  ap : 0 < n → ∀ g o, a = some ⟨g, o, none⟩ → g ≠ s
section
variable {w w' : World} {s n c off bol : Nat} {a : Option Addr} {T : Nat → Int} {line : Int}
theorem SC.lt (h : SC w s a n c T off line bol) : s < w.heap.size := World.block_lt_of_cell? _ _ h.c0
theorem SC.below (h : SC w s a n c T off line bol) (k : Below w.heap.size w w') : SC w' s a n c T off line bol := ⟨cellKeep k h.c0, cellKeep k h.c1, cellKeep k h.c2, cellKeep k h.c3, fun j => (World.frozen?_of_block (k.block s h.lt)).trans (h.f j), h.bt.below k, h.ap⟩
theorem SC.keep (h : SC w s a n c T off line bol) {S : Nat → Prop} (k : Ex S w w') (h1 : ¬ S s) (h2 : 0 < n → ∀ g o, a = some ⟨g, o, none⟩ → ¬ S g) : SC w' s a n c T off line bol := ⟨k.cell h1 h.c0, k.cell h1 h.c1, k.cell h1 h.c2, k.cell h1 h.c3, fun j => (k.frozen h1 h.lt).trans (h.f j), h.bt.keep k h2, h.ap⟩
theorem SC.setOff (h : SC w s a n c T off line bol) (o : Nat) : SC (w.setCell ⟨s, 1, none⟩ (.int .i64 o)) s a n c T o line bol ∧ Ex (fun k => k = s) w (w.setCell ⟨s, 1, none⟩ (.int .i64 o)) := by
  have k : Ex (fun k => k = s) w (w.setCell ⟨s, 1, none⟩ (.int .i64 o)) := (Ex.refl (fun k => k = s) _).set (p := s) rfl _
  refine ⟨⟨?_, World.cell?_setCell_same _ _ _ h.c1, ?_, ?_, fun j => by rw [set_frozen]; exact h.f j, h.bt.keep k h.ap, h.ap⟩, k⟩
  · rw [World.cell?_setCell_other _ _ _ _ (by simp)]; exact h.c0
  · rw [World.cell?_setCell_other _ _ _ _ (by simp)]; exact h.c2
  · rw [World.cell?_setCell_other _ _ _ _ (by simp)]; exact h.c3
theorem SC.setLine (h : SC w s a n c T off line bol) (l : Int) : SC (w.setCell ⟨s, 2, none⟩ (.int .i64 l)) s a n c T off l bol ∧ Ex (fun k => k = s) w (w.setCell ⟨s, 2, none⟩ (.int .i64 l)) := by
  have k : Ex (fun k => k = s) w (w.setCell ⟨s, 2, none⟩ (.int .i64 l)) := (Ex.refl (fun k => k = s) _).set (p := s) rfl _
  refine ⟨⟨?_, ?_, World.cell?_setCell_same _ _ _ h.c2, ?_, fun j => by rw [set_frozen]; exact h.f j, h.bt.keep k h.ap, h.ap⟩, k⟩
  · rw [World.cell?_setCell_other _ _ _ _ (by simp)]; exact h.c0
  · rw [World.cell?_setCell_other _ _ _ _ (by simp)]; exact h.c1
  · rw [World.cell?_setCell_other _ _ _ _ (by simp)]; exact h.c3
theorem SC.setBol (h : SC w s a n c T off line bol) (o : Nat) : SC (w.setCell ⟨s, 3, none⟩ (.int .i64 o)) s a n c T off line o ∧ Ex (fun k => k = s) w (w.setCell ⟨s, 3, none⟩ (.int .i64 o)) := by
  have k : Ex (fun k => k = s) w (w.setCell ⟨s, 3, none⟩ (.int .i64 o)) := (Ex.refl (fun k => k = s) _).set (p := s) rfl _
  refine ⟨⟨?_, ?_, ?_, World.cell?_setCell_same _ _ _ h.c3, fun j => by rw [set_frozen]; exact h.f j, h.bt.keep k h.ap, h.ap⟩, k⟩
  · rw [World.cell?_setCell_other _ _ _ _ (by simp)]; exact h.c0
  · rw [World.cell?_setCell_other _ _ _ _ (by simp)]; exact h.c1
  · rw [World.cell?_setCell_other _ _ _ _ (by simp)]; exact h.c2
end
/-- Where the token at i ends. -/
def tokE (T : Nat → Int) (n : Nat) : Nat → Nat → Nat
  | 0, i => i
  | k + 1, i => if i < n ∧ spaceP (T i) = false then tokE T n k (i + 1) else i
set_option linter.unusedSimpArgs false in
set_option maxHeartbeats 4000000 in
/-- cnf.scanner.tokenEnd -/
theorem tokenEnd_any (w : World) (s n c off bol : Nat) (a : Option Addr) (T : Nat → Int) (line : Int) (h : SC w s a n c T off line bol) (hn : n ≤ 4611686018427387904) (ho : off ≤ n) :
    Calls Tryz.prog 155 #[.pointer (some ⟨s, 0, none⟩)] w fun e w' => e = .returned (.int .i64 (tokE T n (n - off) off)) ∧ w' = w := by
  have HS := hide h
  have c0 := h.c0
  have c1 := h.c1
  clear h
  go_enter Tryz.func155, Tryz.ntmps155
  go_wp2
  go_loop [3] (fun s3 => ∃ i : Nat, off ≤ i ∧ i ≤ n ∧ s3 = .int .i64 i ∧ Hid (tokE T n (n - off) off = tokE T n (n - i) i)) (fun s3 => n - (intOf s3).toNat)
  case atStart => exact ⟨off, Nat.le_refl _, ho, rfl, hide rfl⟩
  case round =>
    obtain ⟨i, hi, hin, rfl, HE⟩ := hrel
    by_cases hlt : i < n
    · have hlti : (i : Int) < (n : Int) := by omega
      have hltb : decide ((i : Int) < (n : Int)) = true := by simpa using hlt
      have hi0 : decide ((i : Int) < 0) = false := by simp
      obtain ⟨g, o, ea, cb, hb⟩ := HS.out.bt i hlt
      subst ea
      have HX := hide (show tokE T n (n - i) i = if i < n ∧ spaceP (T i) = false then tokE T n (n - (i + 1)) (i + 1) else i by
        rw [show n - i = n - (i + 1) + 1 by omega, tokE])
      go_wp2_with fail
      refine (isSpace_any _ (T i)).mono ?_
      rintro e w' ⟨rfl, rfl⟩
      cases hsp : spaceP (T i)
      · have HE2 := hide (show tokE T n (n - off) off = tokE T n (n - (i + 1)) (i + 1) by rw [HE.out, HX.out, if_pos ⟨hlt, hsp⟩])
        clear hsp HX HE
        go_wp2
        go_round
        case rel => exact ⟨i + 1, by omega, by omega, by simp, HE2⟩
        case measure => simp [intOf]; omega
      · have HE2 := hide (show tokE T n (n - off) off = i by rw [HE.out, HX.out, if_neg (fun z => by rw [hsp] at z; cases z.2)])
        clear hsp HX HE
        go_wp2
        go_ret
        exact ⟨by rw [HE2.out]; rfl, rfl⟩
    · obtain rfl : i = n := by omega
      have hltb : decide ((i : Int) < (i : Int)) = false := by simp
      have HE2 := hide (show tokE T i (i - off) off = i by rw [HE.out, Nat.sub_self]; rfl)
      clear HE
      go_wp2
      go_ret
      exact ⟨by rw [HE2.out]; rfl, rfl⟩
end Go.Proofs.Qxb6500773aGreat
