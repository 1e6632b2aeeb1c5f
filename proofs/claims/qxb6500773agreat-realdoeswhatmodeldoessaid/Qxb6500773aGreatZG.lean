import Derived.Test.Qxb6500773aGreatZF
namespace Go.Proofs.Qxb6500773aGreat
open Go.RowKit

/-! ### A clause of one's own, sorted -/
structure RW (w : World) (B g n c : Nat) (C : List Int) : Prop where
  row : w.ownsRow B 64 1 (.slice (some ⟨g, 0, none⟩) n c) n (row32 C)
  len : C.length = n
section
variable {w w' : World} {B g n c : Nat} {C : List Int}
theorem RW.cell (h : RW w B g n c C) {i : Nat} (hi : i < n) : w.cell? ⟨g, i, none⟩ = some (.int .i32 (gt C i)) := by
  obtain ⟨g', c', e1, hc, _⟩ := row_cell h.row (i := i) (u := .int .i32 (gt C i)) (by unfold row32; rw [List.getElem?_map, gt_at (by rw [h.len]; exact hi)]; rfl)
  injection e1 with e1
  injection e1 with e1
  injection e1 with e1
  rw [e1]; exact hc
theorem RW.fz (h : RW w B g n c C) (j : Nat) : w.frozen? ⟨g, j, none⟩ = false := h.row.frozenAt j
theorem RW.put (h : RW w B g n c C) (i : Nat) (x : Int) : RW (w.setCell ⟨g, i, none⟩ (.int .i32 x)) B g n c (C.set i x) := by
  refine ⟨?_, by rw [List.length_set]; exact h.len⟩
  have := (h.row.stored i (.int .i32 x)).1
  unfold row32 at this ⊢
  rw [List.map_set]
  exact this
theorem RW.keep (h : RW w B g n c C) {S : Nat → Prop} (e : Ex S w w') (hs : ¬ S g) : RW w' B g n c C := ⟨own_kept h.row e (fun j hj => by simp [Value.ownBlock] at hj; subst hj; exact hs), h.len⟩
theorem RW.below (h : RW w B g n c C) (e : Below w.heap.size w w') : RW w' B g n c C := h.keep (Ex.of (S := fun _ => False) e) (fun z => z)
end
def SoPost (w : World) (B g n c : Nat) (C : List Int) (e : Ending) (w' : World) : Prop :=
  e = .returned (.tuple #[]) ∧ ∃ C', C'.Perm C ∧ Srt C' ∧ RW w' B g n c C' ∧ Ex (fun k => k = g) w w'
theorem ins_eq {M : List Int} {j : Nat} {l : Int} (hj : 0 < j) (hl : j < M.length) : (M.set j (gt M (j - 1))).set (j - 1) l = swL (M.set j l) (j - 1) j := by
  unfold swL
  rw [gt_set _ hl, gt_set _ hl, if_pos rfl, if_neg (by omega)]
  rw [List.set_comm l (gt M (j - 1)) (by omega), List.set_set, List.set_comm _ _ (by omega)]
set_option linter.unusedSimpArgs false in
set_option maxRecDepth 100000 in
set_option maxHeartbeats 8000000 in
/-- cnf.insertionSort -/
theorem insSort_any (w : World) (B g n c : Nat) (C : List Int) (h : RW w B g n c C) (hl : n ≤ 1000000000) :
    Calls Tryz.prog 145 #[.slice (some ⟨g, 0, none⟩) n c] w (SoPost w B g n c C) := by
  have HR0 := hide h
  clear h
  go_enter Tryz.func145, Tryz.ntmps145
  go_wp2_with fail
  go_loopw [2] (fun s2 wr => ∃ (i : Nat) (D : List Int), s2 = .int .i64 i ∧ 1 ≤ i ∧ i ≤ n + 1 ∧ Hid (∀ a b, a < b → b < i → b < n → gt D a ≤ gt D b) ∧ Hid (D.Perm C) ∧ Hid (RW wr B g n c D) ∧ Hid (Ex (fun k => k = g) w wr)) (fun s2 _ => n + 1 - (intOf s2).toNat)
  case atStart => exact ⟨1, C, rfl, Nat.le_refl _, by omega, (fun a b h1 h2 => by omega), List.Perm.refl _, HR0, Ex.refl _ _⟩
  case round =>
    clear HR0
    obtain ⟨i, D, rfl, hi1, hi2, HS, HPm, HR, HE⟩ := hrel
    by_cases hi : i < n
    · have hib : decide ((i : Int) < (n : Int)) = true := decide_eq_true (by omega)
      have hii : (i : Int) < (n : Int) := by omega
      have x0 := HR.out.cell hi
      have HN0 : Hid (D.set i (gt D i) = D) := set_self (by rw [HR.out.len]; exact hi)
      have HB0 : Hid (But D i i) := fun a b h1 h2 h3 => HS.out a b h1 (by omega) (by omega)
      have HLt : Hid (gt D i = gt D i) := rfl
      generalize hlv : gt D i = l at x0 HN0
      clear hlv HLt HS
      go_wp2_with fail
      go_loopw [4] (fun s4 wr' => ∃ (j : Nat) (M : List Int), s4 = .int .i64 j ∧ j ≤ i ∧ Hid (But (M.set j l) i j) ∧ Hid ((M.set j l).Perm C) ∧ Hid (RW wr' B g n c M) ∧ Hid (Ex (fun k => k = g) w wr')) (fun s4 _ => (intOf s4).toNat)
      case atStart => exact ⟨i, D, rfl, Nat.le_refl _, (by show But _ _ _; rw [HN0.out]; exact HB0.out), (by show List.Perm _ _; rw [HN0.out]; exact HPm.out), HR, HE⟩
      case round =>
        clear HR HE HPm HB0 HN0 x0
        obtain ⟨j, M, rfl, hji, HB, HQ, HR, HE⟩ := hrel
        have hML := HR.out.len
        have y0 := HR.out.cell (i := j) (by omega)
        have hrf := HR.out.fz
        have hjn : (j : Int) < (n : Int) := by omega
        by_cases hj : 0 < j
        · have hjb : decide ((0 : Int) < (j : Int)) = true := decide_eq_true (by omega)
          have y1 := HR.out.cell (i := j - 1) (by omega)
          have hw : wrap64 ((j : Int) - 1) = ((j - 1 : Nat) : Int) := by unfold wrap64; omega
          have hj1 : ((j - 1 : Nat) : Int) < (n : Int) := by omega
          by_cases hm : l < gt M (j - 1)
          · have hmb : decide (l < gt M (j - 1)) = true := decide_eq_true hm
            have HR2 := hide (HR.out.put j (gt M (j - 1)))
            have HE2 := hide (HE.out.set (p := g) (j := j) rfl (.int .i32 (gt M (j - 1))))
            have HQ2 : Hid (((M.set j (gt M (j - 1))).set (j - 1) l).Perm C) := by
              show List.Perm _ _
              rw [ins_eq hj (by omega)]
              exact (sw_perm _ (by rw [List.length_set]; omega) (by rw [List.length_set]; omega)).trans HQ.out
            have HB2 : Hid (But ((M.set j (gt M (j - 1))).set (j - 1) l) i (j - 1)) := by
              show But _ _ _
              rw [ins_eq hj (by omega)]
              exact but_step HB.out hj hji (by rw [List.length_set]; omega) (by rw [gt_set _ (by omega), gt_set _ (by omega), if_pos rfl, if_neg (by omega)]; exact hm)
            generalize gt M (j - 1) = m at *
            generalize hMs : M.set j m = M2 at *
            clear HR HE HQ HB hML hMs hm
            go_wp2
            go_roundw
            case rel => exact ⟨j - 1, M2, by go_num, by omega, HB2, HQ2, HR2, HE2⟩
            case measure => (simp [intOf]; try omega)
          · have hmb : decide (l < gt M (j - 1)) = false := decide_eq_false hm
            have HR2 := hide (HR.out.put j l)
            have HE2 := hide (HE.out.set (p := g) (j := j) rfl (.int .i32 l))
            have HS2 : Hid (∀ a b, a < b → b < i + 1 → b < n → gt (M.set j l) a ≤ gt (M.set j l) b) := fun a b h1 h2 _ => but_end HB.out hji (.inr (by rw [gt_set _ (by omega), gt_set _ (by omega), if_pos rfl, if_neg (by omega)]; omega)) a b h1 (by omega)
            generalize gt M (j - 1) = m at *
            generalize M.set j l = M2 at *
            clear HR HE HB hML hm
            go_wp2
            go_roundw
            case rel => exact ⟨i + 1, M2, by go_num, by omega, by omega, HS2, HQ, HR2, HE2⟩
            case measure => (simp [intOf]; try omega)
        · obtain rfl : j = 0 := by omega
          have HR2 := hide (HR.out.put 0 l)
          have HE2 := hide (HE.out.set (p := g) (j := 0) rfl (.int .i32 l))
          have HS2 : Hid (∀ a b, a < b → b < i + 1 → b < n → gt (M.set 0 l) a ≤ gt (M.set 0 l) b) := fun a b h1 h2 _ => but_end HB.out hji (.inl rfl) a b h1 (by omega)
          generalize M.set 0 l = M2 at *
          clear HR HE HB hML hj
          go_wp2
          go_roundw
          case rel => exact ⟨i + 1, M2, by go_num, by omega, by omega, HS2, HQ, HR2, HE2⟩
          case measure => (simp [intOf]; try omega)
    · have hib : decide ((i : Int) < (n : Int)) = false := decide_eq_false (by omega)
      have HP : Hid (SoPost w B g n c C (.returned (.tuple #[])) wr) := ⟨rfl, D, HPm.out, fun a b h1 h2 => HS.out a b h1 (by rw [HR.out.len] at h2; omega) (by rw [HR.out.len] at h2; omega), HR.out, HE.out⟩
      clear HS HPm HR HE
      go_wp2_with (first | with_reducible refine bodyPost_ret (v := .tuple #[]) ?hr ?hd ?hp | with_reducible refine bodyPost_nrm (v := .tuple #[]) ?hr ?hd ?hp)
      case hr => exact results_nil Tryz.results145
      case hd => rfl
      case hp => exact HP.out
end Go.Proofs.Qxb6500773aGreat
