import Derived.Test.Qxb6500784aCycP
import Derived.Deep.DeepAppendRoom
import Derived.OwnWalk
namespace Go.Proofs.Qxb6500784a
open Go.RowKit

theorem Try.inf3 : (Try.prog.info? 3).map (fun i => (i.zero, i.size, i.bytes)) = some (some (.int .i64 0), 1, 8) := by kernel_rfl
def vals (O : List Nat) : List Value := O.map fun (x : Nat) => Value.int .i64 (x : Int)
theorem G9.at {w w' : World} {B p : Nat} {gn : Int} {m : Nat → Nat} (h : G9 w p gn m) (hp : p < B) (hb : Below B w w') : G9 w' p gn m :=
  ⟨(bat hb 0 hp).trans h.c0, fun j hj => (bat hb _ hp).trans (h.cs j hj), fun j => (hb.frozen (p := ⟨p, j, none⟩) hp).trans (h.fr j)⟩
theorem allOf : ∀ n : Nat, n ≤ 8 → IntKind.u16.wrap (IntKind.u16.wrap (2 ^ n) - 1) % 256 = ((2 ^ n - 1 : Nat) : Int) := by decide
theorem allNot (n D : Nat) (hn : n ≤ 8) (hD : D < 256) : bits BinOp.andNot .u8 (IntKind.u16.wrap (IntKind.u16.wrap (2 ^ n) - 1) % 256) (D : Int) = (((2 ^ n - 1) &&& (255 - D) : Nat) : Int) := by
  rw [allOf n hn]
  have : 2 ^ n ≤ 2 ^ 8 := Nat.pow_le_pow_right (by omega) hn
  exact u8_andNot_nat _ _ (by omega) hD
set_option maxRecDepth 100000 in
set_option maxHeartbeats 4000000 in
theorem sort_any (w : World) (p n : Nat) (m : Nat → Nat) (h0 : 0 < n) (hn : n ≤ 8) (hm : ∀ i, m i < 256) (hg : G9 w p n m) :
    Calls Try.prog 45 #[.pointer (some ⟨p, 0, none⟩)] w fun e w' => ∃ v, e = .returned (.tuple #[v, .int .u8 (stuckP n m)]) ∧ w'.ownsRow w.heap.size 3 1 v (sortP n m).1.length (vals (sortP n m).1) ∧ Below w.heap.size w w' := by
  obtain ⟨i0, hi, hz0, hz1, hz2⟩ := info_parts Try.inf3
  have hp : p < w.heap.size := World.block_lt_of_cell? _ _ hg.c0
  have HG := hide hg
  have g0 := hg.c0
  clear hg
  go_enter Try.func45, Try.ntmps45
  go_wp2_with (at_make; refine wpList_make_own _ rfl _ _ 34 rfl w.heap.size 3 i0 (.int .i64 0) 1 Try.underlying34 hi hz0 hz1 .i64 .i64 _ n rfl rfl rfl (by rw [hz2]; omega) (by unfold maxLen; omega) (Nat.le_refl _) ?_; intro w0 hown0 hgrow0)
  have HO0 := hide hown0
  have HB0 : Hid (Below w.heap.size w w0) := (Below.refl _ _).grown hgrow0 (Nat.le_refl _) (fun k h => by cases h)
  clear hown0 hgrow0 g0
  go_loopw [4, 5] (fun v d wr => ∃ (D : Nat) (O : List Nat), O.length ≤ n ∧ v = .slice (some ⟨w.heap.size, 0, none⟩) O.length n ∧ d = .int .u8 D ∧ D < 256 ∧ wr.ownsRow w.heap.size 3 1 (.slice (some ⟨w.heap.size, 0, none⟩) O.length n) O.length (vals O) ∧ Below w.heap.size w wr ∧ sortF n m (n - O.length) D O = sortP n m) (fun v _ _ => match v with | .slice _ k _ => n - k | _ => 0)
  case atStart => exact ⟨0, [], Nat.zero_le _, rfl, rfl, by omega, HO0.out, HB0.out, rfl⟩
  case round =>
    obtain ⟨D, O, hO, rfl, rfl, hD, hown, hbel, hsf⟩ := hrel
    have HO := hide hown
    have HB := hide hbel
    have HS := hide hsf
    have HGr := hide (HG.out.at hp hbel)
    have g0 := HGr.out.c0
    clear hown hbel hsf HO0 HB0
    by_cases hlt : O.length < n
    · go_wp2
      clear g0
      go_loop [6, 7] (fun x i => x = .int .i64 (-1) ∧ ∃ k : Nat, k ≤ n ∧ i = .int .i64 k ∧ ∀ j, j < k → ready m D j = false) (fun _ i => n - (intOf i).toNat)
      case atStart => exact ⟨rfl, 0, Nat.zero_le _, rfl, fun j h => by omega⟩
      case round =>
        obtain ⟨rfl, k, hk, rfl, hno⟩ := hrel
        have HN := hide hno
        clear hno
        have g0 := HGr.out.c0
        by_cases hkn : k < n
        · have gk := HGr.out.cs k (by omega)
          have hmk := hm k
          go_wp2_with fail
          refine (has_any _ D k hD (by omega)).mono ?_
          rintro e w' ⟨rfl, rfl⟩
          cases hb : D.testBit k
          · have HBk := hide hb
            clear hb
            by_cases hz : m k &&& (255 - D) = 0
            · have HR : Hid (ready m D k = true) := by show ready m D k = true; simp [ready, HBk.out, hz]
              have hx : bits BinOp.andNot .u8 ((m k : Nat) : Int) ((D : Nat) : Int) = 0 := by rw [u8_andNot_nat _ _ hmk hD, hz]; rfl
              go_upto_region 14 with fail
              rw [or_pow8' D k hD (by omega)]
              go_wp2_with (at_builtin; refine wpList_append_fits _ rfl _ _ 34 rfl w.heap.size 3 i0 1 Try.underlying34 hi hz1 w.heap.size O.length n (vals O) rfl (HO.out.alloc _) ⟨w'.heap.size, 0, none⟩ 1 1 [.int .i64 k] rfl rfl (fun j u hj => by (match j, hj with | 0, hj => simp at hj; subst hj; simp [Addr.add])) (fun u hu => by simp at hu; subst hu; rfl) (by omega) ?_; intro w1 hown1 hgrow1)
              have HO1 : Hid (w1.ownsRow w.heap.size 3 1 (.slice (some ⟨w.heap.size, 0, none⟩) (O ++ [k]).length n) (O ++ [k]).length (vals (O ++ [k]))) := by
                show w1.ownsRow _ _ _ _ _ _
                rw [show (O ++ [k]).length = O.length + 1 by simp, show vals (O ++ [k]) = vals O ++ [.int .i64 k] by simp [vals]]
                exact hown1
              have HB1 : Hid (Below w.heap.size w w1) := (HB.out.alloc HB.out.size _).grown hgrow1 (by have := HB.out.size; simp; omega) (fun j h => by injection h; omega)
              clear hown1 hgrow1 g0 gk
              go_roundw
              case rel =>
                refine ⟨D ||| 2 ^ k, O ++ [k], by simp; omega, by simp, rfl, or_lt8 hD (by omega), HO1.out, HB1.out, ?_⟩
                rw [← HS.out, show n - O.length = (n - (O ++ [k]).length) + 1 by simp; omega, sortF_hit (pick_some hkn HR.out HN.out)]
              case measure => simp; omega
            · have HR : Hid (ready m D k = false) := by show ready m D k = false; simp [ready, HBk.out, hz]
              have hx : (bits BinOp.andNot .u8 ((m k : Nat) : Int) ((D : Nat) : Int) == 0) = false := by rw [u8_andNot_nat _ _ hmk hD]; simp; exact hz
              go_wp2
              go_round
              case rel => exact ⟨rfl, k + 1, by omega, by go_num, fun j hj => by rcases Nat.lt_or_ge j k with h | h; exact HN.out j h; rw [show j = k by omega]; exact HR.out⟩
              case measure => simp [intOf]; omega
          · have HR : Hid (ready m D k = false) := by show ready m D k = false; simp [ready, hb]
            clear hb
            go_wp2
            go_round
            case rel => exact ⟨rfl, k + 1, by omega, by go_num, fun j hj => by rcases Nat.lt_or_ge j k with h | h; exact HN.out j h; rw [show j = k by omega]; exact HR.out⟩
            case measure => simp [intOf]; omega
        · have hS : (O, D) = sortP n m := by rw [← HS.out]; exact (sortF_miss (pick_none fun j hj => HN.out j (by omega))).symm
          have HC : Hid (stuckP n m = (2 ^ n - 1) &&& (255 - D)) := by
            show stuckP n m = _
            unfold stuckP
            rw [← hS, if_neg (by simp; omega)]
          have HSP := hide hS
          clear hS
          go_wp2
          refine bodyPost_ret (v := .tuple #[.slice (some ⟨w.heap.size, 0, none⟩) O.length n, .int .u8 (((2 ^ n - 1) &&& (255 - D) : Nat) : Int)]) (by rw [← allNot n D hn hD]; simp [results, Try.results45, go_sem]) rfl ⟨_, by rw [HC.out], ?_, HB.out⟩
          rw [← HSP.out]
          exact HO.out
    · have hS : (O, D) = sortP n m := by rw [← HS.out, show n - O.length = 0 by omega]; rfl
      have HC : Hid (stuckP n m = 0) := by
        show stuckP n m = _
        unfold stuckP
        rw [← hS, if_pos (by simp; omega)]
      have HSP := hide hS
      clear hS
      go_wp2
      refine bodyPost_ret (v := .tuple #[.slice (some ⟨w.heap.size, 0, none⟩) O.length n, .int .u8 0]) (by simp [results, Try.results45, go_sem]) rfl ⟨_, by rw [HC.out]; rfl, ?_, HB.out⟩
      rw [← HSP.out]
      exact HO.out
end Go.Proofs.Qxb6500784a
