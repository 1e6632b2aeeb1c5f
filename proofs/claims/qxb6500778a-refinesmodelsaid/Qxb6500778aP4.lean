import Derived.Test.Qxb6500778aP3
import Derived.Laws.BytesArg
namespace Go.Proofs.Qxb6500778a
open Go.RowKit

theorem if_len {p : Prop} [Decidable p] (a b : List Int) (k : Nat) (ha : a.length ≤ k) (hb : b.length ≤ k) : (if p then a else b).length ≤ k := by split <;> assumption
theorem str_le (s : ByteArray) (k : Nat) (h : s.size ≤ k) : (strL s).length ≤ k := by rw [← strL_len]; exact h
theorem app_len (a b : List Int) (k m : Nat) (ha : a.length ≤ k) (hb : b.length ≤ m) : (a ++ b).length ≤ k + m := by rw [List.length_append]; omega
theorem chgT_len (c : Chg) (hg : GoodC c) : (chgT c).length ≤ 700 := by
  obtain ⟨kd, dv, hp, pr, ln, ix, cl, pm, up⟩ := c
  obtain ⟨hd, hk⟩ := hg
  simp only [] at hd hk
  have l1 := devT_len dv.toNat
  have l2 := devT_len hp.toNat
  have l3 := prefT_len pr.toNat ln.toNat
  have l4 := decL_len ix.toNat
  have l5 := decL_len cl.toNat
  rcases hk with ⟨rfl, ⟨h1, h2, _⟩, hH, _⟩ | ⟨rfl, ⟨h1, h2, _⟩, _⟩ | ⟨rfl, ⟨h1, h2, _⟩, _, hix, hcl, _⟩ | ⟨rfl, _, _, _, hix, _⟩ | ⟨rfl, _, _, hH, _⟩ | ⟨rfl, _⟩
  · unfold chgT
    simp only []
    rw [if_pos trivial]
    exact Nat.le_trans (app_len _ _ 20 350 (str_le _ 20 (by decide)) (app_len _ _ 20 330 (by omega : (devT dv.toNat).length ≤ 20) (app_len _ _ 270 60 (by omega : (prefT pr.toNat ln.toNat).length ≤ 270) (app_len _ _ 20 40 (str_le _ 20 (by decide)) (app_len _ _ 20 20 (by omega : (devT hp.toNat).length ≤ 20) (str_le _ 20 (by decide))))))) (by decide)
  · unfold chgT
    simp only []
    rw [if_neg (by decide), if_pos trivial]
    exact Nat.le_trans (app_len _ _ 20 310 (str_le _ 20 (by decide)) (app_len _ _ 20 290 (by omega : (devT dv.toNat).length ≤ 20) (app_len _ _ 270 20 (by omega : (prefT pr.toNat ln.toNat).length ≤ 270) (str_le _ 20 (by decide))))) (by decide)
  · unfold chgT
    simp only []
    rw [if_neg (by decide), if_neg (by decide), if_pos trivial]
    exact Nat.le_trans (app_len _ _ 20 460 (str_le _ 20 (by decide)) (app_len _ _ 20 440 (by omega : (devT dv.toNat).length ≤ 20) (app_len _ _ 20 420 (str_le _ 20 (by decide)) (app_len _ _ 70 350 (by omega : (decL ix.toNat).length ≤ 70) (app_len _ _ 20 330 (if_len _ _ 20 (str_le _ 20 (by decide)) (str_le _ 20 (by decide))) (app_len _ _ 270 60 (by omega : (prefT pr.toNat ln.toNat).length ≤ 270) (app_len _ _ 20 40 (str_le _ 20 (by decide)) (app_len _ _ 20 20 (if_len _ _ 20 (str_le _ 20 (by decide)) (by omega)) (str_le _ 20 (by decide)))))))))) (by decide)
  · unfold chgT
    simp only []
    rw [if_neg (by decide), if_neg (by decide), if_neg (by decide), if_pos trivial]
    exact Nat.le_trans (app_len _ _ 20 130 (str_le _ 20 (by decide)) (app_len _ _ 20 110 (by omega : (devT dv.toNat).length ≤ 20) (app_len _ _ 20 90 (str_le _ 20 (by decide)) (app_len _ _ 70 20 (by omega : (decL ix.toNat).length ≤ 70) (str_le _ 20 (by decide)))))) (by decide)
  · unfold chgT
    simp only []
    rw [if_neg (by decide), if_neg (by decide), if_neg (by decide), if_neg (by decide), if_pos trivial]
    exact Nat.le_trans (app_len _ _ 20 80 (str_le _ 20 (by decide)) (app_len _ _ 20 60 (by omega : (devT dv.toNat).length ≤ 20) (app_len _ _ 20 40 (by omega : (devT hp.toNat).length ≤ 20) (app_len _ _ 20 20 (if_len _ _ 20 (str_le _ 20 (by decide)) (str_le _ 20 (by decide))) (str_le _ 20 (by decide)))))) (by decide)
  · unfold chgT
    simp only []
    rw [if_neg (by decide), if_neg (by decide), if_neg (by decide), if_neg (by decide), if_neg (by decide)]
    exact Nat.le_trans (app_len _ _ 20 60 (str_le _ 20 (by decide)) (app_len _ _ 20 40 (by omega : (devT dv.toNat).length ≤ 20) (app_len _ _ 20 20 (if_len _ _ 20 (str_le _ 20 (by decide)) (str_le _ 20 (by decide))) (str_le _ 20 (by decide))))) (by decide)
set_option linter.unusedSimpArgs false in
set_option maxRecDepth 100000 in
set_option maxHeartbeats 8000000 in
/-- Print -/
theorem print_any (w : World) (B : Nat) (id : Int) (v : Value) (C : List Chg) (ho : w.ownsRow B 45 9 v C.length (flatC C)) (hid : 0 ≤ id ∧ id ≤ 999999) (hlen : C.length ≤ 128) (hgood : ∀ c ∈ C, GoodC c) :
    Calls Try.prog 22 #[.agg #[.int .i64 id, v]] w fun e w' => e = .returned (.string (strOfNums (printT id C))) ∧ Ex (fun _ => False) w w' := by
  obtain ⟨m, rfl⟩ : ∃ m : Nat, id = m := ⟨id.toNat, by omega⟩
  have hol : ∀ k, v.ownBlock = some k → k < w.heap.size := fun k hk => (ho.lt k hk).2
  obtain ⟨sa, sc, rfl⟩ := own_len ho
  have HGD := hide hgood
  obtain ⟨n, hn⟩ : ∃ n, C.length = n := ⟨_, rfl⟩
  rw [hn] at ho hlen hol ⊢
  have HNL := hide hn
  clear hgood hn
  obtain ⟨W, hW⟩ : ∃ W, W = (w.alloc (.cells #[.int .i64 m, .slice sa n sc] 52)).alloc (.cells #[.slice none 0 0] 101) := ⟨_, rfl⟩
  have HE0 : Hid (Ex (fun _ => False) w W) := by rw [hW]; exact ((Ex.refl _ w).alloc _).alloc _
  have HO : Hid (W.ownsRow B 45 9 (.slice sa n sc) n (flatC C)) := by rw [hW]; exact (ho.alloc _).alloc _
  have nc := fun j u h => new_cells w [.int .i64 (m : Int), .slice sa n sc] 52 j u h
  have nd := fun j u h => new_cells (w.alloc (.cells #[.int .i64 m, .slice sa n sc] 52)) [.slice none 0 0] 101 j u h
  have c0 := nc 0 _ rfl
  have c1 := nc 1 _ rfl
  have e0 := nd 0 _ rfl
  rw [show (w.alloc (.cells #[.int .i64 m, .slice sa n sc] 52)).heap.size = w.heap.size + 1 by simp] at e0
  simp only [Addr.add_mid, Nat.zero_add] at c0 c1 e0
  have HC0 : Hid (W.cell? ⟨w.heap.size, 0, none⟩ = some (.int .i64 m)) := by rw [hW]; exact ((Ex.refl (fun _ => False) _).alloc _).cell (fun e => e) c0
  have HC1 : Hid (W.cell? ⟨w.heap.size, 1, none⟩ = some (.slice sa n sc)) := by rw [hW]; exact ((Ex.refl (fun _ => False) _).alloc _).cell (fun e => e) c1
  have HP : Hid (PR W (w.heap.size + 1) []) := by
    rw [hW]
    exact ⟨⟨_, e0, World.ownsRow_nil _ _ _ _⟩, fun j => by simp [go_sem]⟩
  clear nc nd c0 c1 e0 ho
  go_enter Try.func22, Try.ntmps22
  go_upto_region 2 with fail
  rw [← hW]
  clear hW
  obtain ⟨p, hp⟩ : ∃ r, w.heap.size + 1 = r := ⟨_, rfl⟩
  rw [hp] at HP ⊢
  obtain ⟨rb, hrb⟩ : ∃ r, w.heap.size = r := ⟨_, rfl⟩
  rw [hrb] at HC0 HC1 ⊢
  have HRB := hide hrb
  have hrp : ¬ p ≤ rb := by omega
  have hwp : w.heap.size < p := by omega
  clear hrb hp
  have HE : Hid (Ex (fun k => p ≤ k) W W) := Ex.refl _ _
  have HL : Hid (([] : List Int).length ≤ 0) := Nat.le_refl _
  obtain ⟨X1, hX1⟩ : ∃ Y, ([] : List Int) ++ strL ⟨#[98, 97, 116, 99, 104, 32]⟩ = Y := ⟨_, rfl⟩
  have HX1 := hide hX1
  go_wp2_with fail
  refine (str_any _ p ([] : List Int) ⟨#[98, 97, 116, 99, 104, 32]⟩ HP.out (by have := HL.out; have : (strL ⟨#[98, 97, 116, 99, 104, 32]⟩).length = 6 := rfl; omega)).mono ?_
  rintro e v1 ⟨rfl, hp_, hex_⟩
  rw [hX1] at hp_
  replace HP := hide hp_
  replace HE := hide (HE.out.trans hex_)
  replace HL : Hid (X1.length ≤ 0 + 6) := by show _ ≤ _; rw [← hX1, List.length_append]; have := HL.out; have : (strL ⟨#[98, 97, 116, 99, 104, 32]⟩).length = 6 := rfl; omega
  clear hp_ hex_ hX1
  have k0 := HE.out.cell hrp HC0.out
  obtain ⟨X2, hX2⟩ : ∃ Y, X1 ++ decL m = Y := ⟨_, rfl⟩
  have HX2 := hide hX2
  go_wp2_with fail
  refine (num_any m _ p X1 (by omega) HP.out (by have := HL.out; omega)).mono ?_
  rintro e v2 ⟨rfl, hp_, hex_⟩
  rw [hX2] at hp_
  replace HP := hide hp_
  replace HE := hide (HE.out.trans hex_)
  replace HL : Hid (X2.length ≤ 0 + 6 + 1000000) := by show _ ≤ _; rw [← hX2, List.length_append]; have := HL.out; have := decL_len m; omega
  clear hp_ hex_ hX2 k0
  obtain ⟨X3, hX3⟩ : ∃ Y, X2 ++ strL ⟨#[32, 123, 10]⟩ = Y := ⟨_, rfl⟩
  have HX3 := hide hX3
  go_wp2_with fail
  refine (str_any _ p X2 ⟨#[32, 123, 10]⟩ HP.out (by have := HL.out; have : (strL ⟨#[32, 123, 10]⟩).length = 3 := rfl; omega)).mono ?_
  rintro e v3 ⟨rfl, hp_, hex_⟩
  rw [hX3] at hp_
  replace HP := hide hp_
  replace HE := hide (HE.out.trans hex_)
  replace HL : Hid (X3.length ≤ 0 + 6 + 1000000 + 3) := by show _ ≤ _; rw [← hX3, List.length_append]; have := HL.out; have : (strL ⟨#[32, 123, 10]⟩).length = 3 := rfl; omega
  clear hp_ hex_ hX3
  go_wp2_with fail
  go_loopw [4] (fun s4 wr => ∃ (i : Nat) (Y : List Int), s4 = .int .i64 i ∧ i ≤ n ∧ Hid (PR wr p Y) ∧ Hid (Y = X3 ++ (C.take i).flatMap chgT) ∧ Hid (Y.length ≤ 1000100 + i * 700) ∧ Hid (Ex (fun k => p ≤ k) W wr)) (fun s4 _ => n - (intOf s4).toNat)
  case atStart => exact ⟨0, X3, rfl, Nat.zero_le _, HP, by show _ = _; simp, by show _ ≤ _; have := HL.out; omega, HE⟩
  case round =>
    clear HP HE
    obtain ⟨i, Y, rfl, hin, HP, HY, HYL, HE⟩ := hrel
    have k1 := HE.out.cell hrp HC1.out
    by_cases hi : i < n
    · have hib : decide ((i : Int) < (n : Int)) = true := decide_eq_true (by omega)
      have hii : (i : Int) < (n : Int) := by omega
      obtain ⟨x, hx⟩ : ∃ x, C[i]? = some x := ⟨_, List.getElem?_eq_getElem (by rw [HNL.out]; exact hi)⟩
      have ho1 := own_kept HO.out HE.out (fun k hk hk2 => by have := hol k hk; omega)
      obtain ⟨g, c2, hv⟩ := own_some ho1 (by omega)
      injection hv with hv1 hv2 hv3
      subst hv1
      have hgp : g < p := by have := hol g rfl; omega
      have HGX := hide (HGD.out x (List.mem_of_getElem? hx))
      have HCH := hide (change_pr _ p Y g (i * 9) x HGX.out (co_of (C := C) (by rw [HNL.out]; exact ho1) (by rw [HNL.out]) hx) hgp HP.out (by have := HYL.out; omega))
      have HY2 : Hid (Y ++ chgT x = X3 ++ (C.take (i + 1)).flatMap chgT) := by
        show _ = _
        rw [HY.out, List.take_add_one, hx, List.flatMap_append, List.append_assoc]
        simp
      have HYL2 : Hid ((Y ++ chgT x).length ≤ 1000100 + (i + 1) * 700) := by
        show _ ≤ _
        rw [List.length_append]
        have := HYL.out
        have := chgT_len x HGX.out
        omega
      clear hv2 hv3 ho1 hx HGX
      go_wp2_with fail
      refine HCH.out.mono ?_
      rintro e w2 ⟨rfl, hp_, hex_⟩
      have HP2 := hide hp_
      have HE2 := hide (HE.out.trans hex_)
      clear hp_ hex_ HCH k1
      go_wp2
      go_roundw
      case rel => exact ⟨i + 1, _, by go_num, by omega, HP2, HY2, HYL2, HE2⟩
      case measure => simp [intOf]; omega
    · obtain rfl : i = n := by omega
      have hib : decide ((i : Int) < (i : Int)) = false := decide_eq_false (by omega)
      rw [List.take_of_length_le (by rw [HNL.out]; exact Nat.le_refl _)] at HY
      go_upto_region 9 with fail
      clear k1
      have HF := hide (str_any _ p Y ⟨#[125, 10]⟩ HP.out (by have := HYL.out; have : (strL ⟨#[125, 10]⟩).length = 2 := rfl; omega))
      have HFY : Hid (Y ++ strL ⟨#[125, 10]⟩ = printT m C) := by
        show _ = _
        rw [HY.out, ← HX3.out, ← HX2.out, ← HX1.out]
        simp only [printT, Int.toNat_natCast, List.append_assoc, List.nil_append]
      rw [HFY.out] at HF
      have HFL : Hid ((printT m C).length ≤ 2000000 ∧ 0 < (printT m C).length) := by
        rw [← HFY.out]
        have : (strL ⟨#[125, 10]⟩).length = 2 := rfl
        have h2 := HYL.out
        constructor
        · rw [List.length_append]; omega
        · rw [List.length_append]; omega
      go_wp2_with fail
      refine HF.out.mono ?_
      rintro e w2 ⟨rfl, hp_, hex_⟩
      have HE2 := hide (HE.out.trans hex_)
      obtain ⟨vv, d0, hov⟩ := hp_.ex
      clear hex_ hp_ HF HFY HY HYL HP
      obtain ⟨T, hT⟩ : ∃ T, printT m C = T := ⟨_, rfl⟩
      rw [hT] at hov HFL
      have HT := hide hT
      clear hT
      obtain ⟨gg, cc, hvv⟩ := own_some hov HFL.out.2
      rw [hvv] at d0 hov
      have hcv := run_convert_bytes_arg (P := Try.prog) w2 46 5 Try.underlying46 Try.underlying5 gg 0 T.length cc T rfl (fun i hi => by
        have := hov.cellAt i (by omega)
        rw [Nat.zero_add, this, u8s, List.getElem?_map, List.getElem?_eq_getElem hi, List.getD_eq_getElem?_getD, List.getElem?_eq_getElem hi]
        rfl) 9 Try.underlying9
      clear hov hvv
      go_wp2
      go_ret
      exact ⟨by rw [HT.out]; rfl, HE0.out.trans2 HE2.out (fun j hj => .inr (by have : p ≤ j := hj; omega))⟩
end Go.Proofs.Qxb6500778a
