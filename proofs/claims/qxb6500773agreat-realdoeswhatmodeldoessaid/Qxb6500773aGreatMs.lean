import Derived.Test.Qxb6500773aGreatMr
namespace Go.Proofs.Qxb6500773aGreat
open Go.RowKit

theorem digM_all {X : List Int} (h : digM X = true) : ∀ x ∈ X, 48 ≤ x ∧ x ≤ 57 := fun x hx => by
  unfold digM at h
  rw [Bool.and_eq_true, List.all_eq_true] at h
  have := h.1 x hx
  simp [dgM] at this
  omega
theorem numM_le (X : List Int) : numM X 16777215 ≤ 16777215 := by
  unfold numM
  split
  · omega
  · split <;> omega
def tlM (neg : Bool) (Z : List Int) : Int × Int := if digM Z = true then if numM Z 16777215 < 0 then (0, 2) else if neg = true ∧ numM Z 16777215 = 0 then (0, 9) else if neg = true then (-numM Z 16777215, 0) else (numM Z 16777215, 0) else (0, 9)
def litM (X : List Int) : Int × Int := match X with | [] => tlM false [] | x :: Y => if x = 45 then tlM true Y else tlM false (x :: Y)
set_option linter.unusedSimpArgs false in
set_option maxRecDepth 100000 in
set_option maxHeartbeats 8000000 in
/-- cnfm.literal -/
theorem literalM_any (w : World) (a : Option Addr) (c : Nat) (X : List Int) (ln col : Int) (h : UL w a X) (hc : X.length ≤ c) (hm : c ≤ maxLen) (hl : X.length ≤ 4000000000000000000) :
    Calls Tryz.prog 143 #[.agg #[.slice a X.length c, .int .i64 ln, .int .i64 col]] w (ExPost w (.tuple #[.int .i64 (litM X).1, .int .i64 (litM X).2])) := by
  have HE0 : Hid (Ex (fun _ => False) w (w.alloc (.cells #[.slice a X.length c, .int .i64 ln, .int .i64 col] 181))) := (Ex.refl _ w).alloc _
  have f0 : (w.alloc (.cells #[.slice a X.length c, .int .i64 ln, .int .i64 col] 181)).cell? ⟨w.heap.size, 0, none⟩ = some (.slice a X.length c) := new_cells w [.slice a X.length c, .int .i64 ln, .int .i64 col] 181 0 _ rfl
  have h1 := h.keep HE0.out
  clear h
  obtain ⟨w1, hw1⟩ : ∃ z, w.alloc (.cells #[.slice a X.length c, .int .i64 ln, .int .i64 col] 181) = z := ⟨_, rfl⟩
  rw [hw1] at HE0 f0 h1
  have HW := hide hw1
  clear hw1
  obtain ⟨R, hR⟩ : ∃ R, litM X = R := ⟨_, rfl⟩
  cases X with
  | nil =>
    have HR : Hid (R = if digM [] = true then if numM [] 16777215 < 0 then (0, 2) else if false = true ∧ numM [] 16777215 = 0 then (0, 9) else if false = true then (-numM [] 16777215, 0) else (numM [] 16777215, 0) else (0, 9)) := hR.symm
    rw [hR]
    clear hR
    have c141 := hide (digitsM_any w1 a c [] h1 hl)
    have C142 : Hid (digM [] = true → Calls Tryz.prog 142 #[.slice a ([]).length c, .int .i64 16777215] w1 fun e w' => e = .returned (.int .i64 (numM [] 16777215)) ∧ w' = w1) := fun hz => numberM_any w1 a c [] 16777215 h1 hc (by omega) (digM_all hz)
    have HNM := hide (numM_le [])
    clear h1
    generalize digM [] = dg at *
    generalize numM [] 16777215 = nm at *
    rw [List.length_nil] at f0 HW c141 C142 ⊢
    unfold maxLen at hm
    go_enter Tryz.func143, Tryz.ntmps143
    go_upto_region 1 with fail
    rw [HW.out]
    clear HW
    generalize w.heap.size = B0 at *
    cases dg
    · rw [if_neg (by simp)] at HR
      go_wp2_with fail
      refine c141.out.mono ?_
      rintro e wz ⟨rfl, hw⟩
      rw [hw]
      clear hw wz c141
      go_wp2
      exact bodyPost_ret (v := .tuple #[.int .i64 0, .int .i64 9]) (by simp [results, Tryz.results143, go_sem]) rfl ⟨by rw [HR.out], HE0.out⟩
    · rw [if_pos rfl] at HR
      go_wp2_with fail
      refine c141.out.mono ?_
      rintro e wz ⟨rfl, hw⟩
      rw [hw]
      clear hw wz c141
      have c142 := hide (C142.out trivial)
      go_wp2_with fail
      refine c142.out.mono ?_
      rintro e wz ⟨rfl, hw⟩
      rw [hw]
      clear hw wz c142 C142
      by_cases h0 : nm < 0
      · have b0 : decide (nm < 0) = true := decide_eq_true h0
        rw [if_pos h0] at HR
        go_wp2
        exact bodyPost_ret (v := .tuple #[.int .i64 0, .int .i64 2]) (by simp [results, Tryz.results143, go_sem]) rfl ⟨by rw [HR.out], HE0.out⟩
      · have b0 : decide (nm < 0) = false := decide_eq_false h0
        rw [if_neg h0] at HR
        rw [if_neg (fun z => Bool.noConfusion z.1), if_neg (by simp)] at HR
        go_wp2
        exact bodyPost_ret (v := .tuple #[.int .i64 nm, .int .i64 0]) (by simp [results, Tryz.results143, go_sem]) rfl ⟨by rw [HR.out], HE0.out⟩
  | cons x Y =>
    obtain ⟨g, o, ea, x0⟩ := h1 0 x rfl
    subst ea
    rw [Nat.add_zero] at x0
    by_cases hx : x = 45
    · have hxb : (x == 45) = true := by simp [hx]
      have HR : Hid (R = if digM Y = true then if numM Y 16777215 < 0 then (0, 2) else if true = true ∧ numM Y 16777215 = 0 then (0, 9) else if true = true then (-numM Y 16777215, 0) else (numM Y 16777215, 0) else (0, 9)) := by show _ = _; rw [← hR]; show (if x = 45 then tlM true Y else tlM false (x :: Y)) = _; rw [if_pos hx]; rfl
      rw [hR]
      clear hR hx
      have hlY : Y.length ≤ c - 1 := by simp at hc; omega
      have hlY2 : Y.length ≤ 4000000000000000000 := by simp at hl; omega
      have hu := h1.tlc hc
      have c141 := hide (digitsM_any w1 (if c = 1 then some ⟨g, o, none⟩ else some ⟨g, o + 1, none⟩) (c - 1) Y hu hlY2)
      have C142 : Hid (digM Y = true → Calls Tryz.prog 142 #[.slice (if c = 1 then some ⟨g, o, none⟩ else some ⟨g, o + 1, none⟩) (Y).length (c - 1), .int .i64 16777215] w1 fun e w' => e = .returned (.int .i64 (numM Y 16777215)) ∧ w' = w1) := fun hz => numberM_any w1 (if c = 1 then some ⟨g, o, none⟩ else some ⟨g, o + 1, none⟩) (c - 1) Y 16777215 hu hlY (by omega) (digM_all hz)
      have HNM := hide (numM_le Y)
      clear h1 hu
      generalize digM Y = dg at *
      generalize numM Y 16777215 = nm at *
      rw [List.length_cons] at hc hl f0 HW ⊢
      generalize Y.length = k at *
      unfold maxLen at hm
      have t1 : decide ((0 : Int) < (k : Int) + 1) = true := decide_eq_true (by omega)
      have t2 : (0 : Int) < (k : Int) + 1 := by omega
      by_cases hc1 : c = 1
      · rw [if_pos hc1] at c141 C142
        have hk0 : k = 0 := by omega
        subst hc1 hk0
        clear hm hc hl hlY hlY2
        go_enter Tryz.func143, Tryz.ntmps143
        go_upto_region 1 with fail
        rw [HW.out]
        clear HW
        generalize w.heap.size = B0 at *
        cases dg
        · rw [if_neg (by simp)] at HR
          go_wp2_with fail
          refine c141.out.mono ?_
          rintro e wz ⟨rfl, hw⟩
          rw [hw]
          clear hw wz c141
          go_wp2
          exact bodyPost_ret (v := .tuple #[.int .i64 0, .int .i64 9]) (by simp [results, Tryz.results143, go_sem]) rfl ⟨by rw [HR.out], HE0.out⟩
        · rw [if_pos rfl] at HR
          go_wp2_with fail
          refine c141.out.mono ?_
          rintro e wz ⟨rfl, hw⟩
          rw [hw]
          clear hw wz c141
          have c142 := hide (C142.out trivial)
          go_wp2_with fail
          refine c142.out.mono ?_
          rintro e wz ⟨rfl, hw⟩
          rw [hw]
          clear hw wz c142 C142
          by_cases h0 : nm < 0
          · have b0 : decide (nm < 0) = true := decide_eq_true h0
            rw [if_pos h0] at HR
            go_wp2
            exact bodyPost_ret (v := .tuple #[.int .i64 0, .int .i64 2]) (by simp [results, Tryz.results143, go_sem]) rfl ⟨by rw [HR.out], HE0.out⟩
          · have b0 : decide (nm < 0) = false := decide_eq_false h0
            rw [if_neg h0] at HR
            by_cases h1 : nm = 0
            · have b1 : (nm == 0) = true := by simp [h1]
              rw [if_pos ⟨trivial, h1⟩] at HR
              clear h1
              go_wp2
              exact bodyPost_ret (v := .tuple #[.int .i64 0, .int .i64 9]) (by simp [results, Tryz.results143, go_sem]) rfl ⟨by rw [HR.out], HE0.out⟩
            · have b1 : (nm == 0) = false := by simp [h1]
              rw [if_neg (fun z => h1 z.2), if_pos trivial] at HR
              clear h1
              have hwn : wrap64 (-nm) = -nm := by unfold wrap64; have := HNM.out; omega
              go_wp2
              exact bodyPost_ret (v := .tuple #[.int .i64 (-nm), .int .i64 0]) (by simp [results, Tryz.results143, go_sem, hwn]) rfl ⟨by rw [HR.out], HE0.out⟩
      · rw [if_neg hc1] at c141 C142
        go_enter Tryz.func143, Tryz.ntmps143
        go_upto_region 1 with fail
        rw [HW.out]
        clear HW
        generalize w.heap.size = B0 at *
        cases dg
        · rw [if_neg (by simp)] at HR
          go_wp2_with fail
          refine c141.out.mono ?_
          rintro e wz ⟨rfl, hw⟩
          rw [hw]
          clear hw wz c141
          go_wp2
          exact bodyPost_ret (v := .tuple #[.int .i64 0, .int .i64 9]) (by simp [results, Tryz.results143, go_sem]) rfl ⟨by rw [HR.out], HE0.out⟩
        · rw [if_pos rfl] at HR
          go_wp2_with fail
          refine c141.out.mono ?_
          rintro e wz ⟨rfl, hw⟩
          rw [hw]
          clear hw wz c141
          have c142 := hide (C142.out trivial)
          go_wp2_with fail
          refine c142.out.mono ?_
          rintro e wz ⟨rfl, hw⟩
          rw [hw]
          clear hw wz c142 C142
          by_cases h0 : nm < 0
          · have b0 : decide (nm < 0) = true := decide_eq_true h0
            rw [if_pos h0] at HR
            go_wp2
            exact bodyPost_ret (v := .tuple #[.int .i64 0, .int .i64 2]) (by simp [results, Tryz.results143, go_sem]) rfl ⟨by rw [HR.out], HE0.out⟩
          · have b0 : decide (nm < 0) = false := decide_eq_false h0
            rw [if_neg h0] at HR
            by_cases h1 : nm = 0
            · have b1 : (nm == 0) = true := by simp [h1]
              rw [if_pos ⟨trivial, h1⟩] at HR
              clear h1
              go_wp2
              exact bodyPost_ret (v := .tuple #[.int .i64 0, .int .i64 9]) (by simp [results, Tryz.results143, go_sem]) rfl ⟨by rw [HR.out], HE0.out⟩
            · have b1 : (nm == 0) = false := by simp [h1]
              rw [if_neg (fun z => h1 z.2), if_pos trivial] at HR
              clear h1
              have hwn : wrap64 (-nm) = -nm := by unfold wrap64; have := HNM.out; omega
              go_wp2
              exact bodyPost_ret (v := .tuple #[.int .i64 (-nm), .int .i64 0]) (by simp [results, Tryz.results143, go_sem, hwn]) rfl ⟨by rw [HR.out], HE0.out⟩
    · have hxb : (x == 45) = false := by simp [hx]
      have HR : Hid (R = if digM (x :: Y) = true then if numM (x :: Y) 16777215 < 0 then (0, 2) else if false = true ∧ numM (x :: Y) 16777215 = 0 then (0, 9) else if false = true then (-numM (x :: Y) 16777215, 0) else (numM (x :: Y) 16777215, 0) else (0, 9)) := by show _ = _; rw [← hR]; show (if x = 45 then tlM true Y else tlM false (x :: Y)) = _; rw [if_neg hx]; rfl
      rw [hR]
      clear hR hx
      have c141 := hide (digitsM_any w1 (some ⟨g, o, none⟩) c (x :: Y) h1 hl)
      have C142 : Hid (digM (x :: Y) = true → Calls Tryz.prog 142 #[.slice (some ⟨g, o, none⟩) ((x :: Y)).length c, .int .i64 16777215] w1 fun e w' => e = .returned (.int .i64 (numM (x :: Y) 16777215)) ∧ w' = w1) := fun hz => numberM_any w1 (some ⟨g, o, none⟩) c (x :: Y) 16777215 h1 hc (by omega) (digM_all hz)
      have HNM := hide (numM_le (x :: Y))
      clear h1
      generalize digM (x :: Y) = dg at *
      generalize numM (x :: Y) 16777215 = nm at *
      rw [List.length_cons] at hc hl f0 HW c141 C142 ⊢
      generalize Y.length = k at *
      unfold maxLen at hm
      have t1 : decide ((0 : Int) < (k : Int) + 1) = true := decide_eq_true (by omega)
      have t2 : (0 : Int) < (k : Int) + 1 := by omega
      go_enter Tryz.func143, Tryz.ntmps143
      go_upto_region 1 with fail
      rw [HW.out]
      clear HW
      generalize w.heap.size = B0 at *
      cases dg
      · rw [if_neg (by simp)] at HR
        go_wp2_with fail
        refine c141.out.mono ?_
        rintro e wz ⟨rfl, hw⟩
        rw [hw]
        clear hw wz c141
        go_wp2
        exact bodyPost_ret (v := .tuple #[.int .i64 0, .int .i64 9]) (by simp [results, Tryz.results143, go_sem]) rfl ⟨by rw [HR.out], HE0.out⟩
      · rw [if_pos rfl] at HR
        go_wp2_with fail
        refine c141.out.mono ?_
        rintro e wz ⟨rfl, hw⟩
        rw [hw]
        clear hw wz c141
        have c142 := hide (C142.out trivial)
        go_wp2_with fail
        refine c142.out.mono ?_
        rintro e wz ⟨rfl, hw⟩
        rw [hw]
        clear hw wz c142 C142
        by_cases h0 : nm < 0
        · have b0 : decide (nm < 0) = true := decide_eq_true h0
          rw [if_pos h0] at HR
          go_wp2
          exact bodyPost_ret (v := .tuple #[.int .i64 0, .int .i64 2]) (by simp [results, Tryz.results143, go_sem]) rfl ⟨by rw [HR.out], HE0.out⟩
        · have b0 : decide (nm < 0) = false := decide_eq_false h0
          rw [if_neg h0] at HR
          rw [if_neg (fun z => Bool.noConfusion z.1), if_neg (by simp)] at HR
          go_wp2
          exact bodyPost_ret (v := .tuple #[.int .i64 nm, .int .i64 0]) (by simp [results, Tryz.results143, go_sem]) rfl ⟨by rw [HR.out], HE0.out⟩
end Go.Proofs.Qxb6500773aGreat
