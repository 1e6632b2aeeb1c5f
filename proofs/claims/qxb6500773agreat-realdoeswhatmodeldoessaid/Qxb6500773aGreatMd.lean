import Derived.Test.Qxb6500773aGreatMc
namespace Go.Proofs.Qxb6500773aGreat
open Go.RowKit

/-- the literals without a value, each once -/
def frS (A F : List Int) (d : Int) : List Int := if mvP A d = 0 ∧ memP F d = false then F ++ [d] else F
def frP (A C : List Int) : List Int := C.foldl (frS A) []
theorem frP_succ {A C : List Int} {i : Nat} {x : Int} (h : C[i]? = some x) : frP A (C.take (i + 1)) = frS A (frP A (C.take i)) x := by
  unfold frP
  rw [List.take_add_one, h]
  simp [List.foldl_append]
theorem frS_len (A F : List Int) (d : Int) : (frS A F d).length ≤ F.length + 1 := by
  unfold frS
  split <;> simp
theorem frP_len (A C : List Int) : ∀ i, (frP A (C.take i)).length ≤ i
  | 0 => by simp [frP]
  | i + 1 => by
    have ih := frP_len A C i
    cases h : C[i]? with
    | none =>
      have : C.take (i + 1) = C.take i := by rw [List.take_add_one, h]; simp
      rw [this]; omega
    | some x =>
      rw [frP_succ h]
      have := frS_len A (frP A (C.take i)) x
      omega
def msP (C A : List Int) : Int × Int := if emP C A = 1 then (1, 0) else if (frP A C).length = 0 then (2, 0) else if (frP A C).length = 1 then (3, gt (frP A C) 0) else (0, 0)
def MsPost (w : World) (R : Int × Int) (e : Ending) (w' : World) : Prop := e = .returned (.tuple #[.int .i64 R.1, .int .i64 R.2]) ∧ Ex (fun _ => False) w w'
set_option linter.unusedSimpArgs false in
set_option maxRecDepth 100000 in
set_option maxHeartbeats 8000000 in
/-- cnfm.Status -/
theorem statusM_any (w : World) (ac : Option Addr) (cc : Nat) (C : List Int) (aa : Option Addr) (ca : Nat) (A : List Int) (hC : IL w ac C) (hA : IL w aa A) (hl : C.length ≤ 1000000000) (hlA : A.length ≤ 1000000000) (hd : ∀ x ∈ C, I64 x) :
    Calls Tryz.prog 82 #[.slice ac C.length cc, .slice aa A.length ca] w (MsPost w (msP C A)) := by
  obtain ⟨i0, hi0, hz0, hz1, hz2⟩ := info_of Tryz.info3
  have HI := hide (And.intro hi0 (And.intro hz0 (And.intro hz1 hz2)))
  clear hi0 hz0 hz1 hz2
  have c81 := hide (evalM_any w ac cc C aa ca A hC hA hl hlA hd)
  have HC := hide hC
  have HA := hide hA
  have HD := hide hd
  clear hC hA hd
  have HMS : Hid (msP C A = if emP C A = 1 then (1, 0) else if (frP A C).length = 0 then (2, 0) else if (frP A C).length = 1 then (3, gt (frP A C) 0) else (0, 0)) := rfl
  obtain ⟨R, hR⟩ : ∃ R, msP C A = R := ⟨_, rfl⟩
  rw [hR] at HMS ⊢
  clear hR
  generalize emP C A = ev at *
  have HFP := hide (frP_len A C)
  obtain ⟨n, hn⟩ : ∃ n, C.length = n := ⟨_, rfl⟩
  have HN := hide hn
  rw [hn] at hl c81 ⊢
  clear hn
  obtain ⟨q, hq⟩ : ∃ q, A.length = q := ⟨_, rfl⟩
  have HQ := hide hq
  rw [hq] at hlA c81 ⊢
  clear hq
  by_cases hev : ev = 1
  · have hevb : (ev == 1) = true := by simp [hev]
    rw [if_pos hev] at HMS
    rw [HMS.out]
    clear hev
    go_enter Tryz.func82, Tryz.ntmps82
    go_wp2_with fail
    refine c81.out.mono ?_
    rintro e wz ⟨rfl, hw⟩
    rw [hw]
    clear hw wz c81
    go_wp2
    exact bodyPost_ret (v := .tuple #[.int .i64 1, .int .i64 0]) (by simp [results, Tryz.results82, go_sem]) rfl ⟨rfl, Ex.refl _ _⟩
  · have hevb : (ev == 1) = false := by simp [hev]
    rw [if_neg hev] at HMS
    clear hev
    have HR0 := hide (own_empty w w.heap.size 3 (Nat.le_refl _))
    have HE0 : Hid (Ex (fun _ => False) w (w.alloc (.cells #[] 3))) := (Ex.refl _ w).alloc _
    go_enter Tryz.func82, Tryz.ntmps82
    go_wp2_with fail
    refine c81.out.mono ?_
    rintro e wz ⟨rfl, hw⟩
    rw [hw]
    clear hw wz c81
    go_upto_region 4 with fail
    generalize w.alloc (.cells #[] 3) = w1 at *
    generalize hg0 : w.heap.size = B0 at *
    have HB0 := hide hg0
    clear hg0
    go_wp2_with fail
    go_loopw [6, 8, 16] (fun s6 _ s16 wx => ∃ (i m c2 : Nat) (a2 : Option Addr), s16 = .int .i64 i ∧ s6 = .slice a2 m c2 ∧ i ≤ n ∧ m ≤ i ∧ Hid ((frP A (C.take i)).length = m) ∧ Hid (wx.ownsRow B0 3 1 (.slice a2 m c2) m (row64 (frP A (C.take i)))) ∧ Hid (Ex (fun _ => False) w wx)) (fun _ _ s16 _ => n - (intOf s16).toNat)
    case atStart => exact ⟨0, 0, 0, _, rfl, rfl, Nat.zero_le _, Nat.le_refl _, rfl, HR0, HE0⟩
    case round =>
      clear HR0 HE0
      obtain ⟨i, m, c2, a2, rfl, rfl, hi, hmi, HM, HR, HE⟩ := hrel
      have hw1 : wrap64 ((i : Int) + 1) = ((i + 1 : Nat) : Int) := by unfold wrap64; omega
      by_cases hlt : i < n
      · have hib : decide ((i : Int) < (n : Int)) = true := decide_eq_true (by omega)
        have hii : (i : Int) < (n : Int) := by omega
        obtain ⟨x, hx⟩ : ∃ x, C[i]? = some x := ⟨_, List.getElem?_eq_getElem (by rw [HN.out]; exact hlt)⟩
        obtain ⟨g, o, ea, x0⟩ := (HC.out.keep HE.out (fun _ _ _ z => z)) i x hx
        subst ea
        have HFS := hide (frP_succ (A := A) hx)
        have c80 := hide (value_any wr aa ca A (HA.out.keep HE.out (fun _ _ _ z => z)) (by rw [HQ.out]; exact hlA) x (HD.out x (List.mem_of_getElem? hx)))
        rw [HQ.out] at c80
        have c133 := hide (member_any wr a2 c2 (frP A (C.take i)) x (row_il HR.out) (by rw [HM.out]; omega))
        rw [HM.out] at c133
        clear hx
        unfold frS at HFS
        generalize mvP A x = mv at *
        generalize frP A (C.take i) = F at *
        obtain ⟨F2, hF2⟩ : ∃ z, frP A (C.take (i + 1)) = z := ⟨_, rfl⟩
        have HF2 := hide hF2
        rw [hF2] at HFS
        clear hF2
        go_wp2_with fail
        refine c80.out.mono ?_
        rintro e wz ⟨rfl, hw⟩
        rw [hw]
        clear hw wz c80
        by_cases hmv : mv = 0
        · have hmb : (mv == 0) = true := by simp [hmv]
          generalize memP F x = mm at *
          subst hmv
          go_wp2_with fail
          refine c133.out.mono ?_
          rintro e wz ⟨rfl, hw⟩
          rw [hw]
          clear hw wz c133
          cases mm
          · rw [if_pos (by simp)] at HFS
            have HM2 : Hid (F2.length = m + 1) := by show _ = _; rw [HFS.out, List.length_append, HM.out]; rfl
            have HW := hide (own_kept HR.out (Ex.of (S := fun _ => False) (be1 wr (.cells #[.int .i64 x] 3))) (fun _ _ e => e))
            have HSZ : Hid (B0 ≤ (wr.alloc (.cells #[.int .i64 x] 3)).heap.size) := by rw [← HB0.out]; exact Nat.le_trans HE.out.size (be1 wr _).size
            have HNC : Hid (∀ (j : Nat) (u : Value), [Value.int .i64 x][j]? = some u → (wr.alloc (.cells #[.int .i64 x] 3)).cell? ((⟨wr.heap.size, 0, none⟩ : Addr).add j) = some u) := fun j u hj => new_cells wr [.int .i64 x] 3 j u hj
            have HE1 : Hid (Ex (fun _ => False) w (wr.alloc (.cells #[.int .i64 x] 3))) := HE.out.alloc _
            go_upto_region 9 with (at_builtin; go_loud (refine wpList_append_lies _ rfl (.tmp 30) (.tmp 32) 30 rfl B0 3 i0 _ 1 8 Tryz.underlying30 HI.out.1 HI.out.2.1 HI.out.2.2.1 HI.out.2.2.2 rfl (by decide) (.slice a2 m c2) m (row64 F) rfl HW.out ⟨wr.heap.size, 0, none⟩ 1 1 [.int .i64 x] rfl rfl HNC.out (fun u hu => by simp at hu; subst hu; rfl) (by decide) (by skip; unfold maxLen; omega) (by skip; omega) HSZ.out _ rfl ?_; intro g3 cap3 w3 hr hg hat hlt2; have HR3 := hide hr; have HE3 : Hid (Ex (fun _ => False) w w3) := HE1.out.trans2 (Ex.ofGrown hg (S := fun k => Value.ownBlock (.slice a2 m c2) = some k) (fun k z => z.symm)) (fun j z => .inr (by rw [HB0.out]; exact (HR.out.lt j z).1)); clear hr hg hat hlt2))
            replace HR3 : Hid (w3.ownsRow B0 3 1 (.slice (some ⟨g3, 0, none⟩) (m + 1) cap3) (m + 1) (row64 F2)) := by rw [HFS.out]; unfold row64 at HR3 ⊢; rw [List.map_append]; exact HR3.out
            clear HW HSZ HNC HE1 HR HE HM HFS
            go_wp2
            go_roundw
            case rel => exact ⟨i + 1, m + 1, _, _, by go_num, rfl, by omega, by omega, (by show _ = _; rw [HF2.out]; exact HM2.out), (by show World.ownsRow _ _ _ _ _ _ _; rw [HF2.out]; exact HR3.out), HE3⟩
            case measure => (simp [intOf]; try omega)
          · rw [if_neg (by simp)] at HFS
            have HM2 : Hid (F2.length = m) := by show _ = _; rw [HFS.out]; exact HM.out
            have HR2 : Hid (wr.ownsRow B0 3 1 (.slice a2 m c2) m (row64 F2)) := by rw [HFS.out]; exact HR.out
            clear HR HM HFS
            go_wp2
            go_roundw
            case rel => exact ⟨i + 1, m, _, _, by go_num, rfl, by omega, by omega, (by show _ = _; rw [HF2.out]; exact HM2.out), (by show World.ownsRow _ _ _ _ _ _ _; rw [HF2.out]; exact HR2.out), HE⟩
            case measure => (simp [intOf]; try omega)
        · have hmb : (mv == 0) = false := by simp [hmv]
          rw [if_neg (fun z => hmv z.1)] at HFS
          have HM2 : Hid (F2.length = m) := by show _ = _; rw [HFS.out]; exact HM.out
          have HR2 : Hid (wr.ownsRow B0 3 1 (.slice a2 m c2) m (row64 F2)) := by rw [HFS.out]; exact HR.out
          clear hmv HR HM HFS c133
          go_wp2
          go_roundw
          case rel => exact ⟨i + 1, m, _, _, by go_num, rfl, by omega, by omega, (by show _ = _; rw [HF2.out]; exact HM2.out), (by show World.ownsRow _ _ _ _ _ _ _; rw [HF2.out]; exact HR2.out), HE⟩
          case measure => (simp [intOf]; try omega)
      · have hib : decide ((i : Int) < (n : Int)) = false := decide_eq_false (by omega)
        have e : C.take i = C := List.take_of_length_le (by rw [HN.out]; omega)
        rw [e] at HM HR
        rw [HM.out] at HMS
        generalize frP A C = F at *
        by_cases hm0 : m = 0
        · subst hm0
          rw [if_pos rfl] at HMS
          clear HR HM e
          go_wp2
          exact bodyPost_ret (v := .tuple #[.int .i64 2, .int .i64 0]) (by simp [results, Tryz.results82, go_sem]) rfl ⟨by rw [HMS.out], HE.out⟩
        · rw [if_neg hm0] at HMS
          have hm0b : ((m : Int) == 0) = false := by simp; omega
          by_cases hm1 : m = 1
          · rw [if_pos hm1] at HMS
            subst hm1
            obtain ⟨g, c', e1, hc, _⟩ := row_cell HR.out (i := 0) (u := .int .i64 (gt F 0)) (by unfold row64; rw [List.getElem?_map, gt_at (by rw [HM.out]; omega)]; rfl)
            injection e1 with e1
            subst e1
            generalize gt F 0 = x at *
            clear HR HM e hm0
            go_upto_region 13 with fail
            go_quiet (fail)
            rename_i nq
            go_wp2
            exact bodyPost_ret (v := .tuple #[.int .i64 3, .int .i64 x]) (by simp [results, Tryz.results82, go_sem]) rfl ⟨by rw [HMS.out], HE.out.drewN nq⟩
          · rw [if_neg hm1] at HMS
            have hm1b : ((m : Int) == 1) = false := by simp; omega
            clear HR HM e
            go_wp2
            exact bodyPost_ret (v := .tuple #[.int .i64 0, .int .i64 0]) (by simp [results, Tryz.results82, go_sem]) rfl ⟨by rw [HMS.out], HE.out⟩
end Go.Proofs.Qxb6500773aGreat
