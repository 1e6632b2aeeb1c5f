import Derived.Test.Qxb6500778aCb0
namespace Go.Proofs.Qxb6500778a
open Go.RowKit

def bytW (w : World) (s : ByteArray) : World := w.drew.alloc (.cells (bytesRow s (grownCap w s.size 0 5)) 5 ((bytesRow s (grownCap w s.size 0 5)).size, (bytesRow s (grownCap w s.size 0 5)).size + 1))
theorem bytW_ex (w : World) (s : ByteArray) : Ex (fun _ => False) w (bytW w s) := ((Ex.refl _ w).drew).alloc _
theorem bytW_src (w : World) (s : ByteArray) (l : List Int) (hl : strL s = l) : SrcAt (bytW w s) (some ⟨w.heap.size, 0, none⟩) l := conv_src w s l hl _ _ _
theorem bytW_run (w : World) (s : ByteArray) (n : Nat) (hn : s.size = n) : (convert 9 46 (.string s)).run Try.prog w = .ok (.slice (some ⟨w.heap.size, 0, none⟩) n (grownCap w n 0 5)) (bytW w s) := by
  subst hn
  exact run_bytes_of_string w 9 46 5 s Try.underlying9 Try.underlying46 Try.underlying5
set_option linter.unusedSimpArgs false in
set_option maxRecDepth 100000 in
set_option maxHeartbeats 8000000 in
theorem comesBack_any (w : World) (B : Nat) (id : Int) (v : Value) (C : List Chg) (ho : w.ownsRow B 45 9 v C.length (flatC C)) (hid : 0 ≤ id ∧ id ≤ 999999) (hlen : C.length ≤ 128) (hg : ∀ c ∈ C, GoodC c) :
    Calls Try.prog 14 #[.agg #[.int .i64 id, v]] w fun e w' => e = .returned (.bool true) ∧ Ex (fun _ => False) w w' := by
  obtain ⟨sa, sc, rfl⟩ := own_len ho
  have HE : Hid (Ex (fun _ => False) w (w.alloc (.cells #[.int .i64 id, .slice sa C.length sc] 52))) := (Ex.refl _ w).alloc _
  have nc := fun j u h => new_cells w [.int .i64 id, .slice sa C.length sc] 52 j u h
  have c0 := nc 0 _ rfl
  have c1 := nc 1 _ rfl
  simp only [Addr.add_mid, Nat.zero_add] at c0 c1
  have HO := hide (ho.alloc (.cells #[.int .i64 id, .slice sa C.length sc] 52))
  have HPR := hide (fun V B' v' (hv : World.ownsRow V B' 45 9 v' C.length (flatC C)) => print_any V B' id v' C hv hid hlen hg)
  have HTX := hide (strL_of (byt_print id C))
  have HPP := hide (parse_print id C hid hlen hg)
  have HLN := hide (print_len id C hid hlen hg)
  have HSB := hide (fun V B1 B2 v1 v2 (h1 : World.ownsRow V B1 45 9 v1 C.length (flatC C)) (h2 : World.ownsRow V B2 45 9 v2 C.length (flatC C)) => sameBatch_any V B1 B2 id v1 v2 C h1 h2 hlen)
  obtain ⟨txt, htxt⟩ : ∃ t, strOfNums (printT id C) = t := ⟨_, rfl⟩
  rw [htxt] at HPR HTX
  obtain ⟨L, hL⟩ : ∃ t, printT id C = t := ⟨_, rfl⟩
  rw [hL] at HTX HPP HLN
  have hkc : ∀ V, (convert 9 46 (.string txt)).run Try.prog V = .ok (.slice (some ⟨V.heap.size, 0, none⟩) L.length (grownCap V L.length 0 5)) (bytW V txt) := fun V => bytW_run V txt L.length (by rw [strL_len, HTX.out])
  clear htxt hL nc ho hlen hg hid
  obtain ⟨n, hn⟩ : ∃ n, C.length = n := ⟨_, rfl⟩
  rw [hn] at HO HE c0 c1 ⊢
  have HNL := hide hn
  clear hn
  go_enter Try.func14, Try.ntmps14
  go_upto_region 1 with fail
  generalize w.alloc (.cells #[.int .i64 id, .slice sa n sc] 52) = W at *
  obtain ⟨r, hr⟩ : ∃ r, w.heap.size = r := ⟨_, rfl⟩
  rw [hr] at c0 c1 ⊢
  clear hr
  go_wp2_with fail
  refine (HPR.out W _ (.slice sa n sc) (by rw [HNL.out]; exact HO.out)).mono ?_
  rintro e w1 ⟨rfl, hex1⟩
  have HE1 := hide (HE.out.trans hex1)
  have HO1 := hide (own_kept HO.out hex1 (fun _ _ e => e))
  have c0 := hex1.cell (fun e => e) c0
  have c1 := hex1.cell (fun e => e) c1
  clear hex1
  have HPC := hide (parse_any (bytW w1 txt) (some ⟨w1.heap.size, 0, none⟩) (grownCap w1 L.length 0 5) L HLN.out (grownCap_ge _ _ _ _) (bytW_src w1 txt L HTX.out))
  rw [HPP.out] at HPC
  go_wp2_with fail
  refine HPC.out.mono ?_
  rintro e w2 ⟨v2, rfl, hbl2, hown2⟩
  simp only [] at hown2 ⊢
  obtain ⟨ta, tc, rfl⟩ := own_len hown2
  have hex2 : Ex (fun _ => False) w1 w2 := (bytW_ex w1 txt).trans (Ex.of hbl2)
  rw [HNL.out] at hown2 ⊢
  have E3 := hide (hex2.alloc (.cells #[.int .i64 id, .slice ta n tc] 52))
  have HOA := hide (hown2.alloc (.cells #[.int .i64 id, .slice ta n tc] 52))
  have hn0 := new_cells w2 [.int .i64 id, .slice ta n tc] 52 0 _ rfl
  have hn1 := new_cells w2 [.int .i64 id, .slice ta n tc] 52 1 _ rfl
  simp only [Addr.add_mid, Nat.zero_add] at hn0 hn1
  clear hex2 hbl2 hown2 HPC
  go_upto_region 3 with fail
  generalize w2.alloc (.cells #[.int .i64 id, .slice ta n tc] 52) = W3 at *
  obtain ⟨r4, hr4⟩ : ∃ r, w2.heap.size = r := ⟨_, rfl⟩
  rw [hr4] at hn0 hn1 ⊢
  clear hr4 hkc
  have c0 := E3.out.cell (fun e => e) c0
  have c1 := E3.out.cell (fun e => e) c1
  have HO3 := hide (own_kept HO1.out E3.out (fun _ _ e => e))
  go_wp2_with fail
  refine (HSB.out W3 _ _ (.slice ta n tc) (.slice sa n sc) (by rw [HNL.out]; exact HOA.out) (by rw [HNL.out]; exact HO3.out)).mono ?_
  rintro e w4 ⟨rfl, hex4⟩
  have HOB := hide (own_kept HOA.out hex4 (fun _ _ e => e))
  have hn0 := hex4.cell (fun e => e) hn0
  have hn1 := hex4.cell (fun e => e) hn1
  have HE4 := hide ((HE1.out.trans E3.out).trans hex4)
  clear hex4
  go_wp2_with fail
  refine (HPR.out w4 _ (.slice ta n tc) (by rw [HNL.out]; exact HOB.out)).mono ?_
  rintro e w5 ⟨rfl, hex5⟩
  have HE5 := hide (HE4.out.trans hex5)
  clear hex5
  go_wp2
  go_ret
  exact ⟨rfl, HE5.out⟩
end Go.Proofs.Qxb6500778a
