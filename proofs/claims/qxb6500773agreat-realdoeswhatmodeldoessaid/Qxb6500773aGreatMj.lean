import Derived.Test.Qxb6500773aGreatMi
namespace Go.Proofs.Qxb6500773aGreat
open Go.RowKit

def rowU (X : List Int) : List Value := X.map (Value.int .u8)
/-- a new row of bytes -/
def MuPost (w : World) (X : List Int) (e : Ending) (w' : World) : Prop :=
  ∃ a c, e = .returned (.slice a X.length c) ∧ w'.ownsRow w.heap.size 5 1 (.slice a X.length c) X.length (rowU X) ∧ Ex (fun _ => False) w w'
theorem lowD_short : ∀ (k n : Nat), n < 10 ^ (k + 1) → (lowD n).length ≤ k + 1
  | 0, n, h => by rw [lowD_one (by simp at h; omega)]; simp
  | k + 1, n, h => by
    by_cases h10 : 10 ≤ n
    · rw [lowD_big h10, List.length_cons]
      have := lowD_short k (n / 10) (by rw [Nat.pow_succ] at h; omega)
      omega
    · rw [lowD_one h10]; simp
theorem lowD_20 {n : Nat} (h : n < 2 ^ 63) : (lowD n).length ≤ 20 := lowD_short 19 n (Nat.lt_trans h (by decide))
set_option linter.unusedSimpArgs false in
set_option maxRecDepth 100000 in
set_option maxHeartbeats 8000000 in
/-- cnfm.decimal -/
theorem decimalM_any (n : Nat) (hn : n < 2 ^ 63) (w : World) : Calls Tryz.prog 134 #[.int .i64 n] w (MuPost w (lowD n).reverse) := by
  obtain ⟨i0, hi0, hz0, hz1, hz2⟩ := info_of Tryz.info5
  have HI := hide (And.intro hi0 (And.intro hz0 (And.intro hz1 hz2)))
  clear hi0 hz0 hz1 hz2
  by_cases h10 : 10 ≤ n
  · have hnb : decide ((n : Int) < 10) = false := decide_eq_false (by omega)
    have REC := hide (decimalM_any (n / 10) (by omega) w)
    have HLX := hide (lowD_20 (n := n / 10) (by omega))
    have HLD : Hid ((lowD n).reverse = (lowD (n / 10)).reverse ++ [48 + ((n % 10 : Nat) : Int)]) := by show _ = _; rw [lowD_big h10, List.reverse_cons]
    rw [HLD.out]
    clear HLD
    rw [← List.length_reverse] at HLX
    generalize (lowD (n / 10)).reverse = X at *
    obtain ⟨q, hq⟩ : ∃ q, n / 10 = q := ⟨_, rfl⟩
    obtain ⟨r, hr⟩ : ∃ r, n % 10 = r := ⟨_, rfl⟩
    have hr10 : r < 10 := by omega
    rw [hq] at REC
    rw [hr]
    have d1 : (n : Int).tdiv 10 = (q : Int) := by rw [← hq]; exact Int.ofNat_tdiv n 10 |>.symm
    have d2 : (n : Int).tmod 10 = (r : Int) := by rw [← hr]; exact Int.ofNat_tmod n 10 |>.symm
    have HPo : Hid (∀ a c w', w'.ownsRow w.heap.size 5 1 (.slice a (X.length + 1) c) (X.length + 1) (rowU (X ++ [48 + (r : Int)])) → Ex (fun _ => False) w w' → MuPost w (X ++ [48 + (r : Int)]) (.returned (.slice a (X.length + 1) c)) w') := fun a c w' h1 h2 => ⟨a, c, by simp, by rw [List.length_append]; exact h1, h2⟩
    generalize MuPost w (X ++ [48 + (r : Int)]) = R at *
    have hq2 : (q : Int) ≤ 9223372036854775807 := by rw [← hq]; omega
    clear hq hr
    go_enter Tryz.func134, Tryz.ntmps134
    go_wp2_with fail
    refine REC.out.mono ?_
    rintro e wr ⟨a2, c2, rfl, hr, he⟩
    have HR := hide hr
    have HE := hide he
    clear hr he REC
    obtain ⟨m, hm⟩ : ∃ z, X.length = z := ⟨_, rfl⟩
    rw [hm] at HR HLX HPo ⊢
    have HM := hide hm
    clear hm
    have HW := hide (own_kept HR.out (Ex.of (S := fun _ => False) (be1 wr (.cells #[.int .u8 (48 + (r : Int))] 5))) (fun _ _ e => e))
    have HSZ : Hid (w.heap.size ≤ (wr.alloc (.cells #[.int .u8 (48 + (r : Int))] 5)).heap.size) := Nat.le_trans HE.out.size (be1 wr _).size
    have HNC : Hid (∀ (j : Nat) (u : Value), [Value.int .u8 (48 + (r : Int))][j]? = some u → (wr.alloc (.cells #[.int .u8 (48 + (r : Int))] 5)).cell? ((⟨wr.heap.size, 0, none⟩ : Addr).add j) = some u) := fun j u hj => new_cells wr [.int .u8 (48 + (r : Int))] 5 j u hj
    have HE1 : Hid (Ex (fun _ => False) w (wr.alloc (.cells #[.int .u8 (48 + (r : Int))] 5))) := HE.out.alloc _
    go_wp2_with (at_builtin; go_loud (refine wpList_append_lies _ rfl (.tmp 11) (.tmp 16) 35 rfl w.heap.size 5 i0 _ 1 1 Tryz.underlying35 HI.out.1 HI.out.2.1 HI.out.2.2.1 HI.out.2.2.2 rfl (by decide) (.slice a2 m c2) m (rowU X) rfl HW.out ⟨wr.heap.size, 0, none⟩ 1 1 [.int .u8 (48 + (r : Int))] rfl rfl HNC.out (fun u hu => by simp at hu; subst hu; rfl) (by decide) (by have := HLX.out; unfold maxLen; omega) (by have := HLX.out; omega) HSZ.out _ rfl ?_; intro g3 cap3 w3 hr hg hat hlt2; have HR3 := hide hr; have HE3 : Hid (Ex (fun _ => False) w w3) := HE1.out.trans2 (Ex.ofGrown hg (S := fun k => Value.ownBlock (.slice a2 m c2) = some k) (fun k z => z.symm)) (fun j z => .inr (HR.out.lt j z).1); clear hr hg hat hlt2))
    have HPO := hide (HPo.out (some ⟨g3, 0, none⟩) cap3 w3 (by unfold rowU at HR3 ⊢; rw [List.map_append]; exact HR3.out) HE3.out)
    exact HPO.out
  · have hnb : decide ((n : Int) < 10) = true := decide_eq_true (by omega)
    rw [lowD_one h10]
    have h9 : n ≤ 9 := by omega
    clear h10
    have HW := hide (World.ownsRow_lit (base := w.heap.size) (e := 5) (size := 1) w #[.int .u8 (48 + (n : Int))] 1 (Nat.le_refl _) (by unfold maxLen; omega) rfl)
    have HE : Hid (Ex (fun _ => False) w (w.alloc (.cells #[.int .u8 (48 + (n : Int))] 5))) := (Ex.refl _ w).alloc _
    go_enter Tryz.func134, Tryz.ntmps134
    go_wp2
    exact bodyPost_ret (v := .slice (some ⟨w.heap.size, 0, none⟩) 1 1) (by simp [results, Tryz.results134, go_sem]) rfl ⟨_, _, rfl, HW.out, HE.out⟩
termination_by n
end Go.Proofs.Qxb6500773aGreat
