import Derived.Test.Qxb6500778aT1
namespace Go.Proofs.Qxb6500778a
open Go.RowKit

/-- the text that stands in a slot -/
def fillT (f : List Int) (c : Chg) : List Int :=
  if f = [68] then 114 :: decL c.dv.toNat else
  if f = [72] then 114 :: decL c.hp.toNat else
  if f = [76] then 114 :: decL c.hp.toNat else
  if f = [80] then decL c.pr.toNat ++ (47 :: decL c.ln.toNat) else
  if f = [73] then decL c.ix.toNat else
  if f = [65] then (if c.pm = true then strL s_permit else strL s_deny) else
  if f = [67] then (if c.cl = 16 then strL s_any else decL c.cl.toNat) else
  if f = [85] then (if c.up = true then strL s_up else strL s_down) else f
theorem str_cons (c : Int) (l : List Int) : strOfNums (c :: l) = strOfNums [c] ++ strOfNums l := str_app [c] l
theorem dec_sz {v : Nat} (h : v ≤ 1000000) : (strOfNums (decL v)).size ≤ 1000001 := by
  rw [str_size]
  have := decL_len v
  omega
set_option linter.unusedVariables false in
set_option linter.unusedSimpArgs false in
set_option maxRecDepth 100000 in
set_option maxHeartbeats 8000000 in
theorem fill_D (w : World) (kd : Int) (dv hp pr ln ix cl : Nat) (pm up : Bool) (hdv : dv ≤ 1000000) (hhp : hp ≤ 1000000) (hpr : pr ≤ 1000000) (hln : ln ≤ 1000000) (hix : ix ≤ 1000000) (hcl : cl ≤ 1000000) :
    Calls Try.prog 48 #[.string ⟨#[68]⟩, .agg #[.int .i64 kd, .int .i64 (dv : Int), .int .i64 (hp : Int), .int .i64 (pr : Int), .int .i64 (ln : Int), .int .i64 (ix : Int), .int .i64 (cl : Int), .bool pm, .bool up]] w fun e w' => e = .returned (.string (strOfNums [114] ++ strOfNums (decL dv))) ∧ Ex (fun _ => False) w w' := by
  have nc := fun j u h => new_cells w [.int .i64 kd, .int .i64 (dv : Int), .int .i64 (hp : Int), .int .i64 (pr : Int), .int .i64 (ln : Int), .int .i64 (ix : Int), .int .i64 (cl : Int), .bool pm, .bool up] 45 j u h
  have c0 := nc 0 _ rfl
  have c1 := nc 1 _ rfl
  have c2 := nc 2 _ rfl
  have c3 := nc 3 _ rfl
  have c4 := nc 4 _ rfl
  have c5 := nc 5 _ rfl
  have c6 := nc 6 _ rfl
  have c7 := nc 7 _ rfl
  have c8 := nc 8 _ rfl
  simp only [Addr.add_mid, Nat.zero_add] at c0 c1 c2 c3 c4 c5 c6 c7 c8
  clear nc
  have hsz : ¬ 9223372036854775807 < (ByteArray.mk #[114]).size + (strOfNums (decL dv)).size := by
    have := dec_sz hdv
    have e : (ByteArray.mk #[114]).size = 1 := rfl
    omega
  have e114 : strOfNums [114] = ⟨#[114]⟩ := rfl
  rw [e114]
  go_enter Try.func48, Try.ntmps48
  go_wp2_with fail
  refine (itoa_any dv _ hdv).mono ?_
  rintro e w2 ⟨rfl, hex2⟩
  have HE := hide (((Ex.refl (fun _ => False) w).alloc _).trans hex2)
  clear hex2
  go_wp2
  go_ret
  exact ⟨rfl, HE.out⟩
set_option linter.unusedVariables false in
set_option linter.unusedSimpArgs false in
set_option maxRecDepth 100000 in
set_option maxHeartbeats 8000000 in
theorem fill_H (w : World) (kd : Int) (dv hp pr ln ix cl : Nat) (pm up : Bool) (hdv : dv ≤ 1000000) (hhp : hp ≤ 1000000) (hpr : pr ≤ 1000000) (hln : ln ≤ 1000000) (hix : ix ≤ 1000000) (hcl : cl ≤ 1000000) :
    Calls Try.prog 48 #[.string ⟨#[72]⟩, .agg #[.int .i64 kd, .int .i64 (dv : Int), .int .i64 (hp : Int), .int .i64 (pr : Int), .int .i64 (ln : Int), .int .i64 (ix : Int), .int .i64 (cl : Int), .bool pm, .bool up]] w fun e w' => e = .returned (.string (strOfNums [114] ++ strOfNums (decL hp))) ∧ Ex (fun _ => False) w w' := by
  have nc := fun j u h => new_cells w [.int .i64 kd, .int .i64 (dv : Int), .int .i64 (hp : Int), .int .i64 (pr : Int), .int .i64 (ln : Int), .int .i64 (ix : Int), .int .i64 (cl : Int), .bool pm, .bool up] 45 j u h
  have c0 := nc 0 _ rfl
  have c1 := nc 1 _ rfl
  have c2 := nc 2 _ rfl
  have c3 := nc 3 _ rfl
  have c4 := nc 4 _ rfl
  have c5 := nc 5 _ rfl
  have c6 := nc 6 _ rfl
  have c7 := nc 7 _ rfl
  have c8 := nc 8 _ rfl
  simp only [Addr.add_mid, Nat.zero_add] at c0 c1 c2 c3 c4 c5 c6 c7 c8
  clear nc
  have hsz : ¬ 9223372036854775807 < (ByteArray.mk #[114]).size + (strOfNums (decL hp)).size := by
    have := dec_sz hhp
    have e : (ByteArray.mk #[114]).size = 1 := rfl
    omega
  have e114 : strOfNums [114] = ⟨#[114]⟩ := rfl
  rw [e114]
  go_enter Try.func48, Try.ntmps48
  go_wp2_with fail
  refine (itoa_any hp _ hhp).mono ?_
  rintro e w2 ⟨rfl, hex2⟩
  have HE := hide (((Ex.refl (fun _ => False) w).alloc _).trans hex2)
  clear hex2
  go_wp2
  go_ret
  exact ⟨rfl, HE.out⟩
set_option linter.unusedVariables false in
set_option linter.unusedSimpArgs false in
set_option maxRecDepth 100000 in
set_option maxHeartbeats 8000000 in
theorem fill_L (w : World) (kd : Int) (dv hp pr ln ix cl : Nat) (pm up : Bool) (hdv : dv ≤ 1000000) (hhp : hp ≤ 1000000) (hpr : pr ≤ 1000000) (hln : ln ≤ 1000000) (hix : ix ≤ 1000000) (hcl : cl ≤ 1000000) :
    Calls Try.prog 48 #[.string ⟨#[76]⟩, .agg #[.int .i64 kd, .int .i64 (dv : Int), .int .i64 (hp : Int), .int .i64 (pr : Int), .int .i64 (ln : Int), .int .i64 (ix : Int), .int .i64 (cl : Int), .bool pm, .bool up]] w fun e w' => e = .returned (.string (strOfNums [114] ++ strOfNums (decL hp))) ∧ Ex (fun _ => False) w w' := by
  have nc := fun j u h => new_cells w [.int .i64 kd, .int .i64 (dv : Int), .int .i64 (hp : Int), .int .i64 (pr : Int), .int .i64 (ln : Int), .int .i64 (ix : Int), .int .i64 (cl : Int), .bool pm, .bool up] 45 j u h
  have c0 := nc 0 _ rfl
  have c1 := nc 1 _ rfl
  have c2 := nc 2 _ rfl
  have c3 := nc 3 _ rfl
  have c4 := nc 4 _ rfl
  have c5 := nc 5 _ rfl
  have c6 := nc 6 _ rfl
  have c7 := nc 7 _ rfl
  have c8 := nc 8 _ rfl
  simp only [Addr.add_mid, Nat.zero_add] at c0 c1 c2 c3 c4 c5 c6 c7 c8
  clear nc
  have hsz : ¬ 9223372036854775807 < (ByteArray.mk #[114]).size + (strOfNums (decL hp)).size := by
    have := dec_sz hhp
    have e : (ByteArray.mk #[114]).size = 1 := rfl
    omega
  have e114 : strOfNums [114] = ⟨#[114]⟩ := rfl
  rw [e114]
  go_enter Try.func48, Try.ntmps48
  go_wp2_with fail
  refine (itoa_any hp _ hhp).mono ?_
  rintro e w2 ⟨rfl, hex2⟩
  have HE := hide (((Ex.refl (fun _ => False) w).alloc _).trans hex2)
  clear hex2
  go_wp2
  go_ret
  exact ⟨rfl, HE.out⟩
set_option linter.unusedVariables false in
set_option linter.unusedSimpArgs false in
set_option maxRecDepth 100000 in
set_option maxHeartbeats 8000000 in
theorem fill_I (w : World) (kd : Int) (dv hp pr ln ix cl : Nat) (pm up : Bool) (hdv : dv ≤ 1000000) (hhp : hp ≤ 1000000) (hpr : pr ≤ 1000000) (hln : ln ≤ 1000000) (hix : ix ≤ 1000000) (hcl : cl ≤ 1000000) :
    Calls Try.prog 48 #[.string ⟨#[73]⟩, .agg #[.int .i64 kd, .int .i64 (dv : Int), .int .i64 (hp : Int), .int .i64 (pr : Int), .int .i64 (ln : Int), .int .i64 (ix : Int), .int .i64 (cl : Int), .bool pm, .bool up]] w fun e w' => e = .returned (.string (strOfNums (decL ix))) ∧ Ex (fun _ => False) w w' := by
  have nc := fun j u h => new_cells w [.int .i64 kd, .int .i64 (dv : Int), .int .i64 (hp : Int), .int .i64 (pr : Int), .int .i64 (ln : Int), .int .i64 (ix : Int), .int .i64 (cl : Int), .bool pm, .bool up] 45 j u h
  have c0 := nc 0 _ rfl
  have c1 := nc 1 _ rfl
  have c2 := nc 2 _ rfl
  have c3 := nc 3 _ rfl
  have c4 := nc 4 _ rfl
  have c5 := nc 5 _ rfl
  have c6 := nc 6 _ rfl
  have c7 := nc 7 _ rfl
  have c8 := nc 8 _ rfl
  simp only [Addr.add_mid, Nat.zero_add] at c0 c1 c2 c3 c4 c5 c6 c7 c8
  clear nc

  go_enter Try.func48, Try.ntmps48
  go_wp2_with fail
  refine (itoa_any ix _ hix).mono ?_
  rintro e w2 ⟨rfl, hex2⟩
  have HE := hide (((Ex.refl (fun _ => False) w).alloc _).trans hex2)
  clear hex2
  go_wp2
  go_ret
  exact ⟨rfl, HE.out⟩
set_option linter.unusedVariables false in
set_option linter.unusedSimpArgs false in
set_option maxRecDepth 100000 in
set_option maxHeartbeats 8000000 in
theorem fill_C (w : World) (kd : Int) (dv hp pr ln ix cl : Nat) (pm up : Bool) (h16 : cl ≠ 16) (hdv : dv ≤ 1000000) (hhp : hp ≤ 1000000) (hpr : pr ≤ 1000000) (hln : ln ≤ 1000000) (hix : ix ≤ 1000000) (hcl : cl ≤ 1000000) :
    Calls Try.prog 48 #[.string ⟨#[67]⟩, .agg #[.int .i64 kd, .int .i64 (dv : Int), .int .i64 (hp : Int), .int .i64 (pr : Int), .int .i64 (ln : Int), .int .i64 (ix : Int), .int .i64 (cl : Int), .bool pm, .bool up]] w fun e w' => e = .returned (.string (strOfNums (decL cl))) ∧ Ex (fun _ => False) w w' := by
  have nc := fun j u h => new_cells w [.int .i64 kd, .int .i64 (dv : Int), .int .i64 (hp : Int), .int .i64 (pr : Int), .int .i64 (ln : Int), .int .i64 (ix : Int), .int .i64 (cl : Int), .bool pm, .bool up] 45 j u h
  have c0 := nc 0 _ rfl
  have c1 := nc 1 _ rfl
  have c2 := nc 2 _ rfl
  have c3 := nc 3 _ rfl
  have c4 := nc 4 _ rfl
  have c5 := nc 5 _ rfl
  have c6 := nc 6 _ rfl
  have c7 := nc 7 _ rfl
  have c8 := nc 8 _ rfl
  simp only [Addr.add_mid, Nat.zero_add] at c0 c1 c2 c3 c4 c5 c6 c7 c8
  clear nc
  have e16 : ((cl : Int) == 16) = false := by simp; omega
  go_enter Try.func48, Try.ntmps48
  go_wp2_with fail
  refine (itoa_any cl _ hcl).mono ?_
  rintro e w2 ⟨rfl, hex2⟩
  have HE := hide (((Ex.refl (fun _ => False) w).alloc _).trans hex2)
  clear hex2
  go_wp2
  go_ret
  exact ⟨rfl, HE.out⟩
set_option linter.unusedVariables false in
set_option linter.unusedSimpArgs false in
set_option maxRecDepth 100000 in
set_option maxHeartbeats 8000000 in
theorem fill_A (w : World) (kd : Int) (dv hp pr ln ix cl : Nat) (pm up : Bool) (hdv : dv ≤ 1000000) (hhp : hp ≤ 1000000) (hpr : pr ≤ 1000000) (hln : ln ≤ 1000000) (hix : ix ≤ 1000000) (hcl : cl ≤ 1000000) :
    Calls Try.prog 48 #[.string ⟨#[65]⟩, .agg #[.int .i64 kd, .int .i64 (dv : Int), .int .i64 (hp : Int), .int .i64 (pr : Int), .int .i64 (ln : Int), .int .i64 (ix : Int), .int .i64 (cl : Int), .bool pm, .bool up]] w fun e w' => e = .returned (.string (if pm = true then s_permit else s_deny)) ∧ Ex (fun _ => False) w w' := by
  have nc := fun j u h => new_cells w [.int .i64 kd, .int .i64 (dv : Int), .int .i64 (hp : Int), .int .i64 (pr : Int), .int .i64 (ln : Int), .int .i64 (ix : Int), .int .i64 (cl : Int), .bool pm, .bool up] 45 j u h
  have c0 := nc 0 _ rfl
  have c1 := nc 1 _ rfl
  have c2 := nc 2 _ rfl
  have c3 := nc 3 _ rfl
  have c4 := nc 4 _ rfl
  have c5 := nc 5 _ rfl
  have c6 := nc 6 _ rfl
  have c7 := nc 7 _ rfl
  have c8 := nc 8 _ rfl
  simp only [Addr.add_mid, Nat.zero_add] at c0 c1 c2 c3 c4 c5 c6 c7 c8
  clear nc

  cases pm <;> (go_enter Try.func48, Try.ntmps48; go_wp2_with (first | (go_at_call 68; refine (oneOf_any _ _ _ _).mono ?_; rintro e w2 ⟨rfl, rfl⟩; simp only [])); go_ret; exact ⟨rfl, (Ex.refl (fun _ => False) w).alloc _⟩)
set_option linter.unusedVariables false in
set_option linter.unusedSimpArgs false in
set_option maxRecDepth 100000 in
set_option maxHeartbeats 8000000 in
theorem fill_U (w : World) (kd : Int) (dv hp pr ln ix cl : Nat) (pm up : Bool) (hdv : dv ≤ 1000000) (hhp : hp ≤ 1000000) (hpr : pr ≤ 1000000) (hln : ln ≤ 1000000) (hix : ix ≤ 1000000) (hcl : cl ≤ 1000000) :
    Calls Try.prog 48 #[.string ⟨#[85]⟩, .agg #[.int .i64 kd, .int .i64 (dv : Int), .int .i64 (hp : Int), .int .i64 (pr : Int), .int .i64 (ln : Int), .int .i64 (ix : Int), .int .i64 (cl : Int), .bool pm, .bool up]] w fun e w' => e = .returned (.string (if up = true then s_up else s_down)) ∧ Ex (fun _ => False) w w' := by
  have nc := fun j u h => new_cells w [.int .i64 kd, .int .i64 (dv : Int), .int .i64 (hp : Int), .int .i64 (pr : Int), .int .i64 (ln : Int), .int .i64 (ix : Int), .int .i64 (cl : Int), .bool pm, .bool up] 45 j u h
  have c0 := nc 0 _ rfl
  have c1 := nc 1 _ rfl
  have c2 := nc 2 _ rfl
  have c3 := nc 3 _ rfl
  have c4 := nc 4 _ rfl
  have c5 := nc 5 _ rfl
  have c6 := nc 6 _ rfl
  have c7 := nc 7 _ rfl
  have c8 := nc 8 _ rfl
  simp only [Addr.add_mid, Nat.zero_add] at c0 c1 c2 c3 c4 c5 c6 c7 c8
  clear nc

  cases up <;> (go_enter Try.func48, Try.ntmps48; go_wp2_with (first | (go_at_call 68; refine (oneOf_any _ _ _ _).mono ?_; rintro e w2 ⟨rfl, rfl⟩; simp only [])); go_ret; exact ⟨rfl, (Ex.refl (fun _ => False) w).alloc _⟩)
set_option linter.unusedVariables false in
set_option linter.unusedSimpArgs false in
set_option maxRecDepth 100000 in
set_option maxHeartbeats 8000000 in
theorem fill_Cany (w : World) (kd : Int) (dv hp pr ln ix : Nat) (pm up : Bool) (hdv : dv ≤ 1000000) (hhp : hp ≤ 1000000) (hpr : pr ≤ 1000000) (hln : ln ≤ 1000000) (hix : ix ≤ 1000000)  :
    Calls Try.prog 48 #[.string ⟨#[67]⟩, .agg #[.int .i64 kd, .int .i64 (dv : Int), .int .i64 (hp : Int), .int .i64 (pr : Int), .int .i64 (ln : Int), .int .i64 (ix : Int), .int .i64 16, .bool pm, .bool up]] w fun e w' => e = .returned (.string s_any) ∧ Ex (fun _ => False) w w' := by
  have nc := fun j u h => new_cells w [.int .i64 kd, .int .i64 (dv : Int), .int .i64 (hp : Int), .int .i64 (pr : Int), .int .i64 (ln : Int), .int .i64 (ix : Int), .int .i64 16, .bool pm, .bool up] 45 j u h
  have c0 := nc 0 _ rfl
  have c1 := nc 1 _ rfl
  have c2 := nc 2 _ rfl
  have c3 := nc 3 _ rfl
  have c4 := nc 4 _ rfl
  have c5 := nc 5 _ rfl
  have c6 := nc 6 _ rfl
  have c7 := nc 7 _ rfl
  have c8 := nc 8 _ rfl
  simp only [Addr.add_mid, Nat.zero_add] at c0 c1 c2 c3 c4 c5 c6 c7 c8
  clear nc

  go_enter Try.func48, Try.ntmps48
  go_wp2
  go_ret
  exact ⟨rfl, (Ex.refl (fun _ => False) w).alloc _⟩
set_option linter.unusedVariables false in
set_option linter.unusedSimpArgs false in
set_option maxRecDepth 100000 in
set_option maxHeartbeats 8000000 in
theorem fill_W (w : World) (kd : Int) (dv hp pr ln ix cl : Nat) (pm up : Bool) (f : ByteArray) (hf : (f.toList == [68]) = false ∧ (f.toList == [72]) = false ∧ (f.toList == [76]) = false ∧ (f.toList == [73]) = false ∧ (f.toList == [65]) = false ∧ (f.toList == [85]) = false ∧ (f.toList == [67]) = false ∧ (f.toList == [80]) = false) (hdv : dv ≤ 1000000) (hhp : hp ≤ 1000000) (hpr : pr ≤ 1000000) (hln : ln ≤ 1000000) (hix : ix ≤ 1000000) (hcl : cl ≤ 1000000) :
    Calls Try.prog 48 #[.string f, .agg #[.int .i64 kd, .int .i64 (dv : Int), .int .i64 (hp : Int), .int .i64 (pr : Int), .int .i64 (ln : Int), .int .i64 (ix : Int), .int .i64 (cl : Int), .bool pm, .bool up]] w fun e w' => e = .returned (.string f) ∧ Ex (fun _ => False) w w' := by
  have nc := fun j u h => new_cells w [.int .i64 kd, .int .i64 (dv : Int), .int .i64 (hp : Int), .int .i64 (pr : Int), .int .i64 (ln : Int), .int .i64 (ix : Int), .int .i64 (cl : Int), .bool pm, .bool up] 45 j u h
  have c0 := nc 0 _ rfl
  have c1 := nc 1 _ rfl
  have c2 := nc 2 _ rfl
  have c3 := nc 3 _ rfl
  have c4 := nc 4 _ rfl
  have c5 := nc 5 _ rfl
  have c6 := nc 6 _ rfl
  have c7 := nc 7 _ rfl
  have c8 := nc 8 _ rfl
  simp only [Addr.add_mid, Nat.zero_add] at c0 c1 c2 c3 c4 c5 c6 c7 c8
  clear nc
  obtain ⟨f1, f2, f3, f4, f5, f6, f7, f8⟩ := hf
  go_enter Try.func48, Try.ntmps48
  go_wp2
  go_ret
  exact ⟨rfl, (Ex.refl (fun _ => False) w).alloc _⟩
set_option linter.unusedVariables false in
set_option linter.unusedSimpArgs false in
set_option maxRecDepth 100000 in
set_option maxHeartbeats 8000000 in
theorem fill_P (w : World) (kd : Int) (dv hp pr ln ix cl : Nat) (pm up : Bool) (hdv : dv ≤ 1000000) (hhp : hp ≤ 1000000) (hpr : pr ≤ 1000000) (hln : ln ≤ 1000000) (hix : ix ≤ 1000000) (hcl : cl ≤ 1000000) :
    Calls Try.prog 48 #[.string ⟨#[80]⟩, .agg #[.int .i64 kd, .int .i64 (dv : Int), .int .i64 (hp : Int), .int .i64 (pr : Int), .int .i64 (ln : Int), .int .i64 (ix : Int), .int .i64 (cl : Int), .bool pm, .bool up]] w fun e w' => e = .returned (.string ((strOfNums (decL pr) ++ ⟨#[47]⟩) ++ strOfNums (decL ln))) ∧ Ex (fun _ => False) w w' := by
  have nc := fun j u h => new_cells w [.int .i64 kd, .int .i64 (dv : Int), .int .i64 (hp : Int), .int .i64 (pr : Int), .int .i64 (ln : Int), .int .i64 (ix : Int), .int .i64 (cl : Int), .bool pm, .bool up] 45 j u h
  have c0 := nc 0 _ rfl
  have c1 := nc 1 _ rfl
  have c2 := nc 2 _ rfl
  have c3 := nc 3 _ rfl
  have c4 := nc 4 _ rfl
  have c5 := nc 5 _ rfl
  have c6 := nc 6 _ rfl
  have c7 := nc 7 _ rfl
  have c8 := nc 8 _ rfl
  simp only [Addr.add_mid, Nat.zero_add] at c0 c1 c2 c3 c4 c5 c6 c7 c8
  clear nc
  have hs1 : ¬ 9223372036854775807 < (strOfNums (decL pr)).size + 1 := by
    have := dec_sz hpr
    omega
  have hs3 : ¬ 9223372036854775807 < (strOfNums (decL pr)).size + 1 + (strOfNums (decL ln)).size := by
    have := dec_sz hpr
    have := dec_sz hln
    omega
  have hs2 : ¬ 9223372036854775807 < (strOfNums (decL pr) ++ ByteArray.mk #[47]).size + (strOfNums (decL ln)).size := by
    have := dec_sz hpr
    have := dec_sz hln
    have e : (ByteArray.mk #[47]).size = 1 := rfl
    rw [ByteArray.size_append]
    omega
  go_enter Try.func48, Try.ntmps48
  go_upto_region 8 with fail
  have HEA : Hid (Ex (fun _ => False) w (w.alloc (.cells #[.int .i64 kd, .int .i64 (dv : Int), .int .i64 (hp : Int), .int .i64 (pr : Int), .int .i64 (ln : Int), .int .i64 (ix : Int), .int .i64 (cl : Int), .bool pm, .bool up] 45))) := (Ex.refl _ w).alloc _
  generalize w.alloc (.cells #[.int .i64 kd, .int .i64 (dv : Int), .int .i64 (hp : Int), .int .i64 (pr : Int), .int .i64 (ln : Int), .int .i64 (ix : Int), .int .i64 (cl : Int), .bool pm, .bool up] 45) = W at *
  obtain ⟨r, hr⟩ : ∃ r, w.heap.size = r := ⟨_, rfl⟩
  rw [hr] at c3 c4 ⊢
  clear hr c0 c1 c2 c5 c6 c7 c8
  refine wp_region_held_drew (S := fun w' => w'.cell? ⟨r, 3, none⟩ = some (.int .i64 (pr : Int)) ∧ w'.cell? ⟨r, 4, none⟩ = some (.int .i64 (ln : Int))) (by kernel_rfl) (And.intro c3 c4) (fun hHeld => ?_)
  refine wpAnyH_take (i := 0) (v := ?_) rfl (by kernel_rfl) (by kernel_rfl) (by kernel_rfl) (fun _ _ _ h => h) (Or.inl ⟨by rfl, ?_⟩) (by assumption) ?_
  rotate_left
  · (intro w hSw; (try dsimp only at hSw); go_simp; try (with_reducible rfl))
  try simp only [Act.put, List.getElem_toArray, List.getElem_cons_zero, List.getElem_cons_succ, List.setIfInBounds_toArray, List.set_cons_zero, List.set_cons_succ]
  refine wpAnyH_take (i := 1) (v := ?_) rfl (by kernel_rfl) (by kernel_rfl) (by kernel_rfl) (fun _ _ _ h => h) (Or.inl ⟨by rfl, ?_⟩) (by assumption) ?_
  rotate_left
  · (intro w hSw; (try dsimp only at hSw); go_simp; try (with_reducible rfl))
  try simp only [Act.put, List.getElem_toArray, List.getElem_cons_zero, List.getElem_cons_succ, List.setIfInBounds_toArray, List.set_cons_zero, List.set_cons_succ]
  refine wpAnyH_take (i := 4) (v := ?_) rfl (by kernel_rfl) (by kernel_rfl) (by kernel_rfl) (fun _ _ _ h => h) (Or.inl ⟨by rfl, ?_⟩) (by assumption) ?_
  rotate_left
  · (intro w hSw; (try dsimp only at hSw); go_simp; try (with_reducible rfl))
  try simp only [Act.put, List.getElem_toArray, List.getElem_cons_zero, List.getElem_cons_succ, List.setIfInBounds_toArray, List.set_cons_zero, List.set_cons_succ]
  refine wpAnyH_take (i := 5) (v := ?_) rfl (by kernel_rfl) (by kernel_rfl) (by kernel_rfl) (fun _ _ _ h => h) (Or.inl ⟨by rfl, ?_⟩) (by assumption) ?_
  rotate_left
  · (intro w hSw; (try dsimp only at hSw); go_simp; try (with_reducible rfl))
  try simp only [Act.put, List.getElem_toArray, List.getElem_cons_zero, List.getElem_cons_succ, List.setIfInBounds_toArray, List.set_cons_zero, List.set_cons_succ]
  refine wpAnyH_ready (rs := [2]) (by kernel_rfl) (by simp) ?_
  refine (AllReadyH.cons rfl (fun K hK => ?_) AllReadyH.nil)
  · refine step_call rfl 45 #[.int .i64 (pr : Int)] (by simp [go_sem]) (itoa_any pr _ hpr) ?_
    rintro e wIpr ⟨rfl, hexIpr⟩
    refine ⟨_, rfl, ?_⟩
    refine hK.out _ _ ?_ (fun hHeld => ?_)
    · first | exact ⟨hexIpr.cell (fun e => e) hHeld.1, hexIpr.cell (fun e => e) hHeld.2⟩ | exact ⟨hexIln.cell (fun e => e) hHeld.1, hexIln.cell (fun e => e) hHeld.2⟩
    clear hK K
    try simp only [Act.put, List.getElem_toArray, List.getElem_cons_zero, List.getElem_cons_succ, List.setIfInBounds_toArray, List.set_cons_zero, List.set_cons_succ]
    refine wpAnyH_take (i := 3) (v := ?_) rfl (by kernel_rfl) (by kernel_rfl) (by kernel_rfl) (fun _ _ _ h => h) (Or.inl ⟨by rfl, ?_⟩) (by assumption) ?_
    rotate_left
    · (intro w hSw; (try dsimp only at hSw); go_simp; try (with_reducible rfl))
    try simp only [Act.put, List.getElem_toArray, List.getElem_cons_zero, List.getElem_cons_succ, List.setIfInBounds_toArray, List.set_cons_zero, List.set_cons_succ]
    refine wpAnyH_ready (rs := [6]) (by kernel_rfl) (by simp) ?_
    refine (AllReadyH.cons rfl (fun K hK => ?_) AllReadyH.nil)
    · refine step_call rfl 45 #[.int .i64 (ln : Int)] (by simp [go_sem]) (itoa_any ln _ hln) ?_
      rintro e wIln ⟨rfl, hexIln⟩
      refine ⟨_, rfl, ?_⟩
      refine hK.out _ _ ?_ (fun hHeld => ?_)
      · first | exact ⟨hexIpr.cell (fun e => e) hHeld.1, hexIpr.cell (fun e => e) hHeld.2⟩ | exact ⟨hexIln.cell (fun e => e) hHeld.1, hexIln.cell (fun e => e) hHeld.2⟩
      clear hK K
      try simp only [Act.put, List.getElem_toArray, List.getElem_cons_zero, List.getElem_cons_succ, List.setIfInBounds_toArray, List.set_cons_zero, List.set_cons_succ]
      refine wpAnyH_take (i := 7) (v := ?_) rfl (by kernel_rfl) (by kernel_rfl) (by kernel_rfl) (fun _ _ _ h => h) (Or.inl ⟨by rfl, ?_⟩) (by assumption) ?_
      rotate_left
      · (intro w hSw; (try dsimp only at hSw); go_simp; try (with_reducible rfl))
      try simp only [Act.put, List.getElem_toArray, List.getElem_cons_zero, List.getElem_cons_succ, List.setIfInBounds_toArray, List.set_cons_zero, List.set_cons_succ]
      refine wpAnyH_take (i := 8) (v := ?_) rfl (by kernel_rfl) (by kernel_rfl) (by kernel_rfl) (fun _ _ _ h => h) (Or.inl ⟨by rfl, ?_⟩) (by assumption) ?_
      rotate_left
      · (intro w hSw; (try dsimp only at hSw); go_simp; try (with_reducible rfl))
      try simp only [Act.put, List.getElem_toArray, List.getElem_cons_zero, List.getElem_cons_succ, List.setIfInBounds_toArray, List.set_cons_zero, List.set_cons_succ]
      refine wpAnyH_done (by kernel_rfl) ?_ _
      first
        | (have HE := hide (HEA.out.trans (Ex.of_drew (hexIpr.trans hexIln)))
           clear hexIpr hexIln
           go_wp2
           go_ret
           exact ⟨rfl, HE.out⟩)
        | (have HE := hide (HEA.out.trans (Ex.of_drew (hexIln.trans hexIpr)))
           clear hexIpr hexIln
           go_wp2
           go_ret
           exact ⟨rfl, HE.out⟩)
end Go.Proofs.Qxb6500778a
