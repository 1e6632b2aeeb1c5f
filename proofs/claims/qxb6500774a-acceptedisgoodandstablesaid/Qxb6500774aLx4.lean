import Derived.Test.Qxb6500774aLx3
namespace Go.Proofs.Qxb6500774a
open Go.RowKit
variable {R : Nat → Option Value}

def stp (s : List Int) : Nat → Nat → Int → Nat → Nat × Int × Nat
  | 0, o, l, b => (o, l, b)
  | n + 1, o, l, b => if s[o]? = some 10 then stp s n (o + 1) (l + 1) (o + 1) else stp s n (o + 1) l b
theorem Lx.nl {w : World} {p : Nat} {a : Option Addr} {cp : Nat} {s : List Int} {o : Nat} {l : Int} {b : Nat} (h : Lx R w p a cp s o l b) (l' : Int) (b' : Nat) : Lx R ((w.setCell ⟨p, 2, none⟩ (.int .i64 l')).setCell ⟨p, 3, none⟩ (.int .i64 b')) p a cp s o l' b' :=
  ⟨by simp [go_sem, h.c0], by simp [go_sem, h.c1], by simp [go_sem, h.c2], by simp [go_sem, h.c3], by simp [go_sem, h.f1], by simp [go_sem, h.f2], by simp [go_sem, h.f3], (h.src.set h.ap _ _).set h.ap _ _, h.ap, fun j hj => by rw [set_cell_low _ _ (by omega), set_cell_low _ _ (by omega)]; exact h.hi j hj, fun j => by simp [go_sem, h.fz j]⟩
theorem Lx.below {w w' : World} {p : Nat} {a : Option Addr} {cp : Nat} {s : List Int} {o : Nat} {l : Int} {b : Nat} (h : Lx R w p a cp s o l b) (k : Below w.heap.size w w') : Lx R w' p a cp s o l b := by
  have hp : p < w.heap.size := World.block_lt_of_cell? _ _ h.c0
  refine ⟨cellKeep k h.c0, cellKeep k h.c1, cellKeep k h.c2, cellKeep k h.c3, ?_, ?_, ?_, fun i c hc => ?_, h.ap, fun j hj => (k.cell (p := ⟨p, j, none⟩) hp).trans (h.hi j hj), fun j => ((Ex.of (S := fun _ => False) k).frozen (fun e => e) hp).trans (h.fz j)⟩
  · exact ((Ex.of (S := fun _ => False) k).frozen (fun e => e) hp).trans h.f1
  · exact ((Ex.of (S := fun _ => False) k).frozen (fun e => e) hp).trans h.f2
  · exact ((Ex.of (S := fun _ => False) k).frozen (fun e => e) hp).trans h.f3
  · obtain ⟨g, off, e, hx⟩ := h.src i c hc
    exact ⟨g, off, e, cellKeep k hx⟩
theorem below_dn (w : World) (k B : Nat) : Below B w (w.drewN k) := by
  induction k with
  | zero => exact Below.refl _ _
  | succ k ih => exact ih.drew
set_option maxRecDepth 100000 in
set_option maxHeartbeats 4000000 in
/-- lexer.step -/
theorem step_any (w : World) (p : Nat) (a : Option Addr) (cp : Nat) (s : List Int) (o : Nat) (l : Int) (b n : Nat) (h : Lx R w p a cp s o l b) (hn : o + n ≤ s.length) (hl : 0 ≤ l ∧ l + n ≤ 4611686018427387904) (hs : s.length ≤ 1099511627776) :
    Calls Try.prog 103 #[.pointer (some ⟨p, 0, none⟩), .int .i64 n] w fun e w' => e = .returned (.tuple #[]) ∧ Ex (fun k => k = p) w w' ∧ ∃ o' l' b', stp s n o l b = (o', l', b') ∧ Lx R w' p a cp s o' l' b' := by
  have HX := hide h
  clear h
  go_enter Try.func103, Try.ntmps103
  go_wp2
  go_loopw [1] (fun s1 wr => ∃ (k o2 : Nat) (l2 : Int) (b2 : Nat), s1 = .int .i64 k ∧ Hid (stp s n o l b = stp s k o2 l2 b2) ∧ Hid (o2 + k ≤ s.length ∧ 0 ≤ l2 ∧ l2 + k ≤ 4611686018427387904) ∧ Hid (Ex (fun k => k = p) w wr) ∧ Lx R wr p a cp s o2 l2 b2) (fun s1 _ => (intOf s1).toNat)
  case atStart => exact ⟨n, o, l, b, rfl, rfl, ⟨hn, hl⟩, Ex.refl _ _, HX.out⟩
  case round =>
    clear HX hn hl
    obtain ⟨k, o2, l2, b2, rfl, HE, HB, HEX, hx⟩ := hrel
    have HX := hide hx
    clear hx
    by_cases hk : k = 0
    · subst hk
      have HPO : Hid (∃ o' l' b', stp s n o l b = (o', l', b') ∧ Lx R wr p a cp s o' l' b') := ⟨o2, l2, b2, HE.out, HX.out⟩
      go_wp2
      exact ⟨rfl, .tuple #[], by simp [results, Try.results103], rfl, HEX.out, HPO.out⟩
    · obtain ⟨m, rfl⟩ : ∃ m, k = m + 1 := ⟨k - 1, by omega⟩
      have d0 : decide ((0 : Int) < ((m + 1 : Nat) : Int)) = true := by simp
      have hb := HB.out
      obtain ⟨c, hc⟩ : ∃ c, s[o2]? = some c := ⟨_, List.getElem?_eq_getElem (by omega)⟩
      have HC := hide hc
      have hw1 : IntKind.i64.wrap ((o2 : Int) + 1) = ((o2 + 1 : Nat) : Int) := by rw [IntKind.wrap_i64]; omega
      have c1 := HX.out.c1
      have f1 := HX.out.f1
      go_upto_region 3 with fail
      have hx1 := HX.out.off (o2 + 1)
      rw [show ((o2 + 1 : Nat) : Int) = (o2 : Int) + 1 by omega] at hx1
      have HX1 := hide hx1
      have HE1 : Hid (Ex (fun k => k = p) w (wr.setCell ⟨p, 1, none⟩ (.int .i64 ((o2 : Int) + 1)))) := HEX.out.set rfl _
      generalize wr.setCell ⟨p, 1, none⟩ (.int .i64 ((o2 : Int) + 1)) = w1 at *
      clear c1 f1 hw1 HX HEX hx1
      have c0 := HX1.out.c0
      have c1 := HX1.out.c1
      rw [show ((o2 + 1 : Nat) : Int) = (o2 : Int) + 1 by omega] at c1
      obtain ⟨g, off, ha, cx⟩ := HX1.out.src o2 c hc
      subst ha
      have hlt : (o2 : Int) < (s.length : Int) := by omega
      have hw2 : IntKind.i64.wrap ((o2 : Int) + 1 - 1) = (o2 : Int) := by rw [IntKind.wrap_i64]; omega
      have hw3 : IntKind.i64.wrap (o2 : Int) = (o2 : Int) := by rw [IntKind.wrap_i64]; omega
      clear hc
      go_quiet (fail)
      have HX2 := hide (HX1.out.below (below_dn w1 nq w1.heap.size))
      have HE2 : Hid (Ex (fun k => k = p) w (w1.drewN nq)) := HE1.out.drewN nq
      generalize w1.drewN nq = w2 at *
      clear HX1 HE1 c0 c1 cx hw2 hw3
      have hwm : IntKind.i64.wrap (((m + 1 : Nat) : Int) - 1) = (m : Int) := by rw [IntKind.wrap_i64]; omega
      have hq : IntKind.i64.wrap (m : Int) = (m : Int) := by rw [IntKind.wrap_i64]; omega
      by_cases h10 : c = 10
      · have d1 : (c == 10) = true := by simpa using h10
        have HR : Hid (stp s n o l b = stp s m (o2 + 1) (l2 + 1) (o2 + 1)) := by
          have := HE.out
          rw [stp, HC.out, if_pos (by rw [h10])] at this
          exact this
        have HB2 : Hid (o2 + 1 + m ≤ s.length ∧ 0 ≤ l2 + 1 ∧ l2 + 1 + m ≤ 4611686018427387904) := by show _ ∧ _; omega
        have hwl : IntKind.i64.wrap (l2 + 1) = l2 + 1 := by rw [IntKind.wrap_i64]; omega
        have c1 := HX2.out.c1
        have c2 := HX2.out.c2
        have c3 := HX2.out.c3
        have f2 := HX2.out.f2
        have f3 := HX2.out.f3
        have hx3 := HX2.out.nl (l2 + 1) (o2 + 1)
        have HE3 : Hid (Ex (fun k => k = p) w ((w2.setCell ⟨p, 2, none⟩ (.int .i64 (l2 + 1))).setCell ⟨p, 3, none⟩ (.int .i64 ((o2 + 1 : Nat) : Int)))) := (HE2.out.set rfl _).set rfl _
        rw [show ((o2 + 1 : Nat) : Int) = (o2 : Int) + 1 by omega] at hx3 HE3 c1
        have HX3 := hide hx3
        clear HX2 HE2 hx3 h10 HE HC hb
        go_wp2
        go_roundw
        case rel => exact ⟨m, o2 + 1, l2 + 1, o2 + 1, by first | rfl | go_num, HR, HB2, HE3, HX3.out⟩
        case measure => simp [intOf]
      · have d1 : (c == 10) = false := by simpa using h10
        have HR : Hid (stp s n o l b = stp s m (o2 + 1) l2 b2) := by
          have := HE.out
          rw [stp, HC.out, if_neg (by simpa using h10)] at this
          exact this
        have HB2 : Hid (o2 + 1 + m ≤ s.length ∧ 0 ≤ l2 ∧ l2 + m ≤ 4611686018427387904) := by show _ ∧ _; omega
        clear h10 HE HC hb
        go_wp2
        go_roundw
        case rel => exact ⟨m, o2 + 1, l2, b2, by first | rfl | go_num, HR, HB2, HE2, HX2.out⟩
        case measure => simp [intOf]
end Go.Proofs.Qxb6500774a
