import Derived.Test.Qxb6500778aNF
namespace Go.Proofs.Qxb6500778a
open Go.RowKit

def badAt : List Chg → Nat → Option Nat
  | [], _ => none
  | c :: C, i => if GoodC c then badAt C (i + 1) else some i
def checkP (id : Int) (C : List Chg) : Int × Int :=
  if id < 0 then (5, -1) else if 999999 < id then (5, -1) else if 128 < C.length then (4, -1) else match badAt C 0 with
    | some i => (5, (i : Int))
    | none => (0, 0)
theorem co_of {w : World} {B : Nat} {v : Value} {C : List Chg} (h : w.ownsRow B 45 9 v C.length (flatC C)) {g c : Nat} (hv : v = .slice (some ⟨g, 0, none⟩) C.length c) {i : Nat} {x : Chg} (hi : C[i]? = some x) : CO w g (i * 9) x := by
  subst hv
  have f := fun j hj => flat_at Chg.vals 9 ch_len C i x hi j hj
  have c := fun j u hu => h.cells (g := g) rfl j u hu
  have k : ∀ j u, j < 9 → x.vals[j]? = some u → w.cell? ⟨g, i * 9 + j, none⟩ = some u := fun j u hj hu => by
    have := c (i * 9 + j) u ((f j hj).trans hu)
    rwa [Addr.add_mid, Nat.zero_add] at this
  exact ⟨k 0 _ (by omega) rfl, k 1 _ (by omega) rfl, k 2 _ (by omega) rfl, k 3 _ (by omega) rfl, k 4 _ (by omega) rfl, k 5 _ (by omega) rfl, k 6 _ (by omega) rfl, k 7 _ (by omega) rfl, k 8 _ (by omega) rfl⟩
theorem bad_drop {C : List Chg} {i : Nat} {x : Chg} (hx : C[i]? = some x) (j : Nat) : badAt (C.drop i) j = if GoodC x then badAt (C.drop (i + 1)) (j + 1) else some j := by
  obtain ⟨hlt, e⟩ := List.getElem?_eq_some_iff.1 hx
  rw [List.drop_eq_getElem_cons hlt, e, badAt]
set_option maxRecDepth 100000 in
set_option maxHeartbeats 8000000 in
/-- Check -/
theorem check_any (w : World) (B : Nat) (id : Int) (v : Value) (C : List Chg) (ho : w.ownsRow B 45 9 v C.length (flatC C)) (hlen : C.length ≤ 1099511627776) :
    Calls Try.prog 15 #[.agg #[.int .i64 id, v]] w fun e w' => e = .returned (.tuple #[.int .i64 (checkP id C).1, .int .i64 (checkP id C).2]) ∧ Ex (fun _ => False) w w' := by
  obtain ⟨sa, sc, rfl⟩ := own_len ho
  have HO := hide (ho.alloc (.cells #[.int .i64 id, .slice sa C.length sc] 52))
  have HE : Hid (Ex (fun _ => False) w (w.alloc (.cells #[.int .i64 id, .slice sa C.length sc] 52))) := (Ex.refl _ w).alloc _
  have nc := fun j u h => new_cells w [.int .i64 id, .slice sa C.length sc] 52 j u h
  have c0 := nc 0 _ rfl
  have c1 := nc 1 _ rfl
  simp only [Addr.add_mid, Nat.zero_add] at c0 c1
  clear nc ho
  have HK : Hid (checkP id C = if id < 0 then ((5 : Int), (-1 : Int)) else if 999999 < id then (5, -1) else if 128 < C.length then (4, -1) else match badAt C 0 with | some i => (5, (i : Int)) | none => (0, 0)) := rfl
  obtain ⟨n, hn⟩ : ∃ n, C.length = n := ⟨_, rfl⟩
  rw [hn] at HO HE c0 c1 HK hlen ⊢
  have HNL := hide hn
  clear hn
  go_enter Try.func15, Try.ntmps15
  go_upto_region 1 with fail
  generalize w.alloc (.cells #[.int .i64 id, .slice sa n sc] 52) = W at *
  obtain ⟨r, hr⟩ : ∃ r, w.heap.size = r := ⟨_, rfl⟩
  rw [hr] at c0 c1 ⊢
  have hrW : r < W.heap.size := World.block_lt_of_cell? _ _ c0
  clear hr
  by_cases h0 : id < 0
  · have d0 : decide (id < 0) = true := decide_eq_true h0
    rw [if_pos h0] at HK
    go_wp2
    exact bodyPost_ret (v := .tuple #[.int .i64 5, .int .i64 (-1)]) (by simp [results, Try.results15, go_sem]) rfl ⟨by rw [HK.out], HE.out⟩
  · have d0 : decide (id < 0) = false := decide_eq_false h0
    rw [if_neg h0] at HK
    by_cases h1 : 999999 < id
    · have d1 : decide (999999 < id) = true := decide_eq_true h1
      rw [if_pos h1] at HK
      go_wp2
      exact bodyPost_ret (v := .tuple #[.int .i64 5, .int .i64 (-1)]) (by simp [results, Try.results15, go_sem]) rfl ⟨by rw [HK.out], HE.out⟩
    · have d1 : decide (999999 < id) = false := decide_eq_false h1
      rw [if_neg h1] at HK
      by_cases h2 : 128 < n
      · have d2 : decide ((128 : Int) < (n : Int)) = true := decide_eq_true (by omega)
        rw [if_pos h2] at HK
        go_wp2
        exact bodyPost_ret (v := .tuple #[.int .i64 4, .int .i64 (-1)]) (by simp [results, Try.results15, go_sem]) rfl ⟨by rw [HK.out], HE.out⟩
      · have d2 : decide ((128 : Int) < (n : Int)) = false := decide_eq_false (by omega)
        rw [if_neg h2] at HK
        go_upto_region 5 with fail
        clear d0 d1 d2 h0 h1
        have HC0 := hide c0
        have HC1 := hide c1
        clear c0 c1
        go_wp2_with fail
        go_loopw [4] (fun s4 wr => ∃ (i : Nat), s4 = .int .i64 i ∧ i ≤ n ∧ Hid (badAt C 0 = badAt (C.drop i) i) ∧ Hid (Ex (fun _ => False) W wr)) (fun s4 _ => n - (intOf s4).toNat)
        case atStart => exact ⟨0, rfl, Nat.zero_le _, rfl, Ex.refl _ _⟩
        case round =>
          obtain ⟨i, rfl, hin, HB, HE1⟩ := hrel
          have c1 := HE1.out.cell (fun e => e) HC1.out
          by_cases hi : i < n
          · have hib : decide ((i : Int) < (n : Int)) = true := decide_eq_true (by omega)
            have hii : (i : Int) < (n : Int) := by omega
            obtain ⟨x, hx⟩ : ∃ x, C[i]? = some x := ⟨_, List.getElem?_eq_getElem (by rw [HNL.out]; exact hi)⟩
            have ho1 := own_kept HO.out HE1.out (fun _ _ e => e)
            obtain ⟨g, c2, hv⟩ := own_some ho1 (by omega)
            injection hv with hv1 hv2 hv3
            subst hv1
            have HCO := hide (co_of (C := C) (by rw [HNL.out]; exact ho1) (by rw [HNL.out]) hx)
            rw [bad_drop hx] at HB
            clear hv2 hv3 ho1 hx
            go_wp2_with fail
            refine (goodChange_any _ g (i * 9) x HCO.out).mono ?_
            rintro e w2 ⟨rfl, hex⟩
            have HE2 := hide (HE1.out.trans hex)
            clear hex
            by_cases hg : GoodC x
            · rw [if_pos hg] at HB
              rw [decide_eq_true hg]
              clear hg HCO c1
              go_wp2
              go_roundw
              case rel => exact ⟨i + 1, by go_num, by omega, HB, HE2⟩
              case measure => simp [intOf]; omega
            · rw [if_neg hg] at HB
              rw [decide_eq_false hg]
              clear hg HCO c1
              rw [HB.out] at HK
              go_wp2
              exact bodyPost_ret (v := .tuple #[.int .i64 5, .int .i64 i]) (by simp [results, Try.results15, go_sem]) rfl ⟨by rw [HK.out], HE.out.trans HE2.out⟩
          · obtain rfl : i = n := by omega
            have hib : decide ((i : Int) < (i : Int)) = false := decide_eq_false (by omega)
            rw [List.drop_eq_nil_of_le (by rw [HNL.out]; exact Nat.le_refl _), badAt] at HB
            rw [HB.out] at HK
            go_wp2
            exact bodyPost_ret (v := .tuple #[.int .i64 0, .int .i64 0]) (by simp [results, Try.results15, go_sem]) rfl ⟨by rw [HK.out], HE.out.trans HE1.out⟩
end Go.Proofs.Qxb6500778a
