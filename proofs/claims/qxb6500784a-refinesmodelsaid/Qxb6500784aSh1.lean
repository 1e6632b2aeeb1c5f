import Derived.Test.Qxb6500784aPr
import Derived.Laws.OwnMore
import Derived.Deep.CutBlock
namespace Go.Proofs.Qxb6500784a
open Go.RowKit

/-! ### Byte buffers -/
def BB (w : World) (B : Nat) (v : Value) (X : List Int) : Prop := w.ownsRow B 5 1 v X.length (X.map (Value.int .u8))
theorem BB.keep {w w' : World} {B : Nat} {v : Value} {X : List Int} (h : BB w B v X) {S : Nat → Prop} (k : Ex S w w') (hs : ∀ j, v.ownBlock = some j → ¬ S j) : BB w' B v X := own_kept h k hs
theorem BB.below {w w' : World} {B : Nat} {v : Value} {X : List Int} (h : BB w B v X) (k : Below w.heap.size w w') : BB w' B v X := h.keep (Ex.of (S := fun _ => False) k) (fun _ _ e => e)
/-- From the buffer v in w to the buffer v' in w'. -/
structure BG (w : World) (B : Nat) (v : Value) (w' : World) (v' : Value) (Y : List Int) : Prop where
  bb : BB w' B v' Y
  ex : Ex (fun k => v.ownBlock = some k) w w'
  own : ∀ k, v'.ownBlock = some k → v.ownBlock = some k ∨ w.heap.size ≤ k
theorem BG.refl {w : World} {B : Nat} {v : Value} {X : List Int} (h : BB w B v X) : BG w B v w v X := ⟨h, Ex.refl _ _, fun _ z => .inl z⟩
theorem BG.trans {w w1 w2 : World} {B : Nat} {v v1 v2 : Value} {X Y : List Int} (h : BG w B v w1 v1 X) (k : BG w1 B v1 w2 v2 Y) : BG w B v w2 v2 Y :=
  ⟨k.bb, h.ex.trans2 k.ex h.own, fun j z => (k.own j z).elim (h.own j) (fun z => .inr (Nat.le_trans h.ex.size z))⟩
theorem BG.below {w w1 w2 : World} {B : Nat} {v v1 : Value} {X : List Int} (h : BG w B v w1 v1 X) (k : Below w1.heap.size w1 w2) : BG w B v w2 v1 X :=
  ⟨h.bb.below k, h.ex.trans (Ex.of k), h.own⟩
theorem bg_app {w w2 : World} {B : Nat} {o : Obj} {v : Value} {X : List Int} (_h : BB w B v X) {n g cap : Nat} {Z : List Int} {V : List Value} (hr : w2.ownsRow B 5 1 (.slice (some ⟨g, 0, none⟩) n cap) n (X.map (Value.int .u8) ++ V)) (hg : (w.alloc o).grownBy w2 v.ownBlock) (hat : v.ownBlock = some g ∨ g = (w.alloc o).heap.size) (hV : V = Z.map (Value.int .u8) := by rfl) (hn : n = (X ++ Z).length := by simp) :
    BG w B v w2 (.slice (some ⟨g, 0, none⟩) (X ++ Z).length cap) (X ++ Z) := by
  subst hV
  subst hn
  refine ⟨by unfold BB; rw [List.map_append]; exact hr, (Ex.of (be1 w o)).trans (Ex.ofGrown hg (fun k z => z.symm)), fun j z => ?_⟩
  cases z
  exact hat.imp id (fun z => by rw [z]; exact (be1 w o).size)
def ApPost (w : World) (B : Nat) (v : Value) (Y : List Int) (e : Ending) (w' : World) : Prop := ∃ v', e = .returned v' ∧ BG w B v w' v' Y
theorem Try.inf5 : (Try.prog.info? 5).map (fun i => (i.zero, i.size, i.bytes)) = some (some (.int .u8 0), 1, 1) := by kernel_rfl
def bt (n : Int) (k : Nat) : Int := n / 2 ^ (8 * (7 - k)) % 256
def putN (n : Int) (k : Nat) : List Int := (List.range k).map (bt n)
theorem putN_succ (n : Int) (k : Nat) : putN n (k + 1) = putN n k ++ [bt n k] := by simp [putN, List.range_succ]
def putP (n : Int) : List Int := putN n 8
theorem putN_len (n : Int) (k : Nat) : (putN n k).length = k := by simp [putN]
set_option linter.unusedSimpArgs false in
set_option maxRecDepth 100000 in
set_option maxHeartbeats 4000000 in
/-- ledgerm.put -/
theorem put_any (w : World) (B : Nat) (v : Value) (X : List Int) (n : Int) (h : BB w B v X) (hB : B ≤ w.heap.size) (hX : X.length ≤ 1000000000) :
    Calls Try.prog 57 #[v, .int .u64 n] w (ApPost w B v (X ++ putP n)) := by
  obtain ⟨i0, hi0, hz0, hz1, hz2⟩ := info_parts Try.inf5
  have HI := hide (And.intro hi0 (And.intro hz0 (And.intro hz1 hz2)))
  clear hi0 hz0 hz1 hz2
  suffices H : ∀ v0, v0 = v → Calls Try.prog 57 #[v, .int .u64 n] w (ApPost w B v0 (X ++ putP n)) from H v rfl
  intro v0 hv0
  have HBB0 := hide (show BG w B v0 w v X from by rw [hv0]; exact BG.refl h)
  clear hv0
  obtain ⟨a, c, rfl⟩ := own_form h
  have HBS0 := hide hB
  clear h hB
  obtain ⟨Y, hY⟩ : ∃ Y, X ++ putP n = Y := ⟨_, rfl⟩
  rw [hY]
  have HY := hide hY
  clear hY
  go_enter Try.func57, Try.ntmps57
  go_wp2
  go_loopw [0, 5] (fun x y wr => ∃ (k : Nat) (a : Option Addr) (c : Nat) (Q : List Int), k ≤ 8 ∧ y = .int .i64 (7 - (k : Int)) ∧ x = .slice a Q.length c ∧ Hid (Q = X ++ putN n k) ∧ BG w B v0 wr (.slice a Q.length c) Q) (fun _ y _ => (intOf y + 1).toNat)
  case atStart => exact ⟨0, a, c, X, by omega, rfl, rfl, by simp [putN, Hid], HBB0.out⟩
  case round =>
    clear HBB0 a c
    obtain ⟨k, a, c, Q, hk, rfl, rfl, HQ, hb⟩ := hrel
    have HB := hide hb
    clear hb
    by_cases hlt : k < 8
    · have d1 : decide ((k : Int) ≤ 7) = true := by simp; omega
      have hw1 : IntKind.u64.wrap (7 - (k : Int)) = 7 - k := by rw [IntKind.wrap_u64]; omega
      have hw2 : IntKind.u64.wrap (8 * (7 - (k : Int))) = 8 * (7 - k) := by rw [IntKind.wrap_u64]; omega
      have HBS := hide (Nat.le_trans HBS0.out HB.out.ex.size)
      have HBQ := hide HB.out.bb
      have HXL : Hid (Q.length ≤ 1000000008) := by show Q.length ≤ _; rw [HQ.out, List.length_append, putN_len]; omega
      have HZw2 := hide (show BB (wr.alloc (.cells #[.int .u8 (n / 2 ^ (8 * (7 - k)) % 256)] 5)) B (.slice a Q.length c) (Q) from BB.below HBQ.out (be1 wr _))
      have HSw2 := hide (show B ≤ (wr.alloc (.cells #[.int .u8 (n / 2 ^ (8 * (7 - k)) % 256)] 5)).heap.size from Nat.le_trans HBS.out (be1 wr _).size)
      have HNw2 := hide (show ∀ (j : Nat) (u : Value), ([.int .u8 (n / 2 ^ (8 * (7 - k)) % 256)] : List Value)[j]? = some u → (wr.alloc (.cells #[.int .u8 (n / 2 ^ (8 * (7 - k)) % 256)] 5)).cell? ((⟨wr.heap.size, 0, none⟩ : Addr).add j) = some u from fun j u hj => new_cells wr [.int .u8 (n / 2 ^ (8 * (7 - k)) % 256)] 5 j u hj)
      go_wp2_with (at_builtin; go_loud (refine wpList_append_lies _ rfl (.tmp 10) (.tmp 17) 93 rfl B 5 i0 _ 1 1 Try.underlying93 HI.out.1 HI.out.2.1 HI.out.2.2.1 HI.out.2.2.2 rfl (by decide) (.slice a Q.length c) (Q).length ((Q).map (Value.int .u8)) rfl HZw2.out ⟨wr.heap.size, 0, none⟩ 1 1 [.int .u8 (n / 2 ^ (8 * (7 - k)) % 256)] rfl rfl HNw2.out (fun u hu => by simp at hu; (first | (subst hu; rfl) | (rcases hu with hu | hu <;> (subst hu; rfl)))) (by decide) (by have := HXL.out; unfold maxLen; omega) (by have := HXL.out; omega) HSw2.out _ rfl ?_; intro gw2 capw2 w2 hr hg hat hlt2; have HPw2 := hide (bg_app (Z := [n / 2 ^ (8 * (7 - k)) % 256]) HBQ.out hr hg hat); clear hr hg hat hlt2 HZw2 HSw2 HNw2))
      obtain ⟨Q2, hQw2⟩ : ∃ Q2, (Q) ++ [n / 2 ^ (8 * (7 - k)) % 256] = Q2 := ⟨_, rfl⟩
      have HQw2 := hide hQw2.symm
      rw [hQw2] at HPw2
      rw [show (Q).length + 1 = Q2.length from by rw [← hQw2]; simp only [List.length_append, List.length_cons, List.length_nil]]
      clear hQw2
      have HQ2 : Hid (Q2 = X ++ putN n (k + 1)) := by show Q2 = _; rw [HQw2.out, HQ.out, putN_succ, List.append_assoc]; rfl
      have HBG := hide (HB.out.trans HPw2.out)
      clear HQw2 HPw2 HB HBQ HBS HXL HQ
      go_wp2
      go_roundw
      case rel => exact ⟨k + 1, _, _, Q2, by omega, by go_num, rfl, HQ2, HBG.out⟩
      case measure => simp [intOf]; omega
    · obtain rfl : k = 8 := by omega
      have d1 : decide (((8 : Nat) : Int) ≤ 7) = false := rfl
      have HQ3 : Hid (Q = Y) := by show Q = Y; rw [HQ.out, ← HY.out]; rfl
      clear HQ
      go_wp2
      go_ret
      exact ⟨_, rfl, by rw [← HQ3.out]; exact HB.out⟩
end Go.Proofs.Qxb6500784a
