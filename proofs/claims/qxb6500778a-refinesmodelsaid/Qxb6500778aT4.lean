import Derived.Test.Qxb6500778aT3
import Derived.Test.Qxb6500778aR1
namespace Go.Proofs.Qxb6500778a
open Go.RowKit

theorem sh_small {k : Int} (hk : 0 ≤ k ∧ k < 6) : (∀ f ∈ shF k, f.length ≤ 8) ∧ (shF k).length ≤ 9 := by
  have key : ∀ m : Nat, m < 6 → (∀ f ∈ shF (m : Int), f.length ≤ 8) ∧ (shF (m : Int)).length ≤ 9 := by decide +kernel
  obtain ⟨m, rfl⟩ : ∃ m : Nat, k = m := ⟨k.toNat, by omega⟩
  exact key m (by omega)
theorem sh_fok {k : Int} (hk : 0 ≤ k ∧ k < 6) : ∀ f ∈ shF k, FOk f := by
  rcases (by omega : k = 0 ∨ k = 1 ∨ k = 2 ∨ k = 3 ∨ k = 4 ∨ k = 5) with e | e | e | e | e | e <;> subst e
  · rw [sh0]; intro f hf; simp only [List.mem_cons, List.not_mem_nil, or_false] at hf; rcases hf with rfl | rfl | rfl | rfl | rfl | rfl <;> first | exact fok_via | exact fok_kw n_route kw_route | exact fok_kw n_add kw_add | (unfold FOk; simp)
  · rw [sh1]; intro f hf; simp only [List.mem_cons, List.not_mem_nil, or_false] at hf; rcases hf with rfl | rfl | rfl | rfl <;> first | exact fok_kw n_route kw_route | exact fok_kw n_del kw_del | (unfold FOk; simp)
  · rw [sh2]; intro f hf; simp only [List.mem_cons, List.not_mem_nil, or_false] at hf; rcases hf with rfl | rfl | rfl | rfl | rfl | rfl | rfl | rfl | rfl <;> first | exact fok_at | exact fok_class | exact fok_kw n_acl kw_acl | exact fok_kw n_insert kw_insert | (unfold FOk; simp)
  · rw [sh3]; intro f hf; simp only [List.mem_cons, List.not_mem_nil, or_false] at hf; rcases hf with rfl | rfl | rfl | rfl | rfl <;> first | exact fok_at | exact fok_kw n_acl kw_acl | exact fok_kw n_remove kw_remove | (unfold FOk; simp)
  · rw [sh4]; intro f hf; simp only [List.mem_cons, List.not_mem_nil, or_false] at hf; rcases hf with rfl | rfl | rfl | rfl <;> first | exact fok_kw n_link kw_link | (unfold FOk; simp)
  · rw [sh5]; intro f hf; simp only [List.mem_cons, List.not_mem_nil, or_false] at hf; rcases hf with rfl | rfl | rfl <;> first | exact fok_kw n_iface kw_iface | (unfold FOk; simp)
theorem fill_len {c : Chg} (hc : Rng c) {f : List Int} (hl : f.length ≤ 8) : (fillT f c).length ≤ 3000 := by
  obtain ⟨h1, h2, h3, h4, h5, h6⟩ := hc
  have a1 := decL_len c.dv.toNat
  have a2 := decL_len c.hp.toNat
  have a3 := decL_len c.pr.toNat
  have a4 := decL_len c.ln.toNat
  have a5 := decL_len c.ix.toNat
  have a6 := decL_len c.cl.toNat
  have k1 : (strL s_permit).length = 6 := rfl
  have k2 : (strL s_deny).length = 4 := rfl
  have k3 : (strL s_any).length = 3 := rfl
  have k4 : (strL s_up).length = 2 := rfl
  have k5 : (strL s_down).length = 4 := rfl
  unfold fillT
  repeat' split
  all_goals first | omega | (simp only [List.length_cons, List.length_append]; omega)
set_option linter.unusedSimpArgs false in
set_option maxRecDepth 100000 in
set_option maxHeartbeats 16000000 in
/-- configm.Print -/
theorem printM_any (w : World) (B : Nat) (id : Int) (v : Value) (C : List Chg) (ho : w.ownsRow B 45 9 v C.length (flatC C)) (hid : 0 ≤ id ∧ id ≤ 999999) (hlen : C.length ≤ 128) (hgood : ∀ c ∈ C, GoodC c) :
    Calls Try.prog 25 #[.agg #[.int .i64 id, v]] w fun e w' => e = .returned (.string (strOfNums (printT id C))) ∧ Ex (fun _ => False) w w' := by
  obtain ⟨a, rfl⟩ : ∃ a : Nat, id = a := ⟨id.toNat, by omega⟩
  have ha : a ≤ 1000000 := by omega
  obtain ⟨sa, sc, rfl⟩ := own_len ho
  have HO := hide (ho.alloc (.cells #[.int .i64 (a : Int), .slice sa C.length sc] 52))
  have HE : Hid (Ex (fun _ => False) w (w.alloc (.cells #[.int .i64 (a : Int), .slice sa C.length sc] 52))) := (Ex.refl _ w).alloc _
  have nc := fun j u h => new_cells w [.int .i64 (a : Int), .slice sa C.length sc] 52 j u h
  have c0 := nc 0 _ rfl
  have c1 := nc 1 _ rfl
  simp only [Addr.add_mid, Nat.zero_add] at c0 c1
  have HG := hide hgood
  have HT : Hid (printT (a : Int) C = strL ⟨#[98, 97, 116, 99, 104, 32]⟩ ++ (decL a ++ (strL ⟨#[32, 123, 10]⟩ ++ (C.flatMap chgT ++ strL ⟨#[125, 10]⟩)))) := rfl
  clear nc ho hid hgood
  obtain ⟨n, hn⟩ : ∃ n, C.length = n := ⟨_, rfl⟩
  rw [hn] at HO HE c0 c1 hlen ⊢
  have HNL := hide hn
  clear hn
  have hd := dec_sz ha
  have hz1 : ¬ 9223372036854775807 < 6 + (strOfNums (decL a)).size := by omega
  have hz2 : ¬ 9223372036854775807 < (ByteArray.mk #[98, 97, 116, 99, 104, 32] ++ strOfNums (decL a)).size + 3 := by rw [ByteArray.size_append]; have e : (ByteArray.mk #[98, 97, 116, 99, 104, 32]).size = 6 := rfl; omega
  have hz3 : ¬ 9223372036854775807 < 6 + (strOfNums (decL a)).size + 3 := by omega
  go_enter Try.func25, Try.ntmps25
  go_upto_region 1 with fail
  generalize w.alloc (.cells #[.int .i64 (a : Int), .slice sa n sc] 52) = W at *
  obtain ⟨r, hr⟩ : ∃ r, w.heap.size = r := ⟨_, rfl⟩
  rw [hr] at c0 c1 ⊢
  clear hr
  go_wp2_with fail
  refine (itoa_any a _ ha).mono ?_
  rintro e w1 ⟨rfl, hex1⟩
  have HE1 := hide (HE.out.trans hex1)
  have HC1 := hide (hex1.cell (fun e => e) c1)
  have HO1 := hide (own_kept HO.out hex1 (fun _ _ e => e))
  clear c0 c1 hex1 HO HE
  go_upto_region 2 with fail
  obtain ⟨S0, hS0⟩ : ∃ S, (ByteArray.mk #[98, 97, 116, 99, 104, 32] ++ strOfNums (decL a)) ++ ByteArray.mk #[32, 123, 10] = S := ⟨_, rfl⟩
  have HS0 : Hid (S0 = strOfNums (strL ⟨#[98, 97, 116, 99, 104, 32]⟩ ++ (decL a ++ (strL ⟨#[32, 123, 10]⟩ ++ ([] : List Chg).flatMap chgT)))) := by
    show S0 = _
    rw [← hS0, str_app, str_app, str_app, str_of, str_of, ByteArray.append_assoc]
    rfl
  have hB0 : S0.size ≤ 2000000 := by
    rw [← hS0, ByteArray.size_append, ByteArray.size_append]
    have e : (ByteArray.mk #[98, 97, 116, 99, 104, 32]).size = 6 := rfl
    have e2 : (ByteArray.mk #[32, 123, 10]).size = 3 := rfl
    omega
  rw [hS0]
  clear hz1 hz2 hz3 hS0 hd
  go_wp2_with fail
  go_loopw [3, 4] (fun s3 s4 wr => ∃ (k : Nat) (S : ByteArray), s3 = .string S ∧ s4 = .int .i64 k ∧ k ≤ n ∧ Hid (S = strOfNums (strL ⟨#[98, 97, 116, 99, 104, 32]⟩ ++ (decL a ++ (strL ⟨#[32, 123, 10]⟩ ++ (C.take k).flatMap chgT)))) ∧ S.size ≤ 2000000 + k * 40000 ∧ Hid (Ex (fun _ => False) w1 wr)) (fun _ s4 _ => n - (intOf s4).toNat)
  case atStart => exact ⟨0, S0, rfl, rfl, Nat.zero_le _, HS0, by omega, Ex.refl _ _⟩
  case round =>
    clear HS0 hB0
    obtain ⟨k, S, rfl, rfl, hk, HS, hB, HX⟩ := hrel
    have c1 := HX.out.cell (fun e => e) HC1.out
    by_cases hlt : k < n
    · have hib : decide ((k : Int) < (n : Int)) = true := decide_eq_true (by omega)
      have hii : (k : Int) < (n : Int) := by omega
      have hz : ¬ 9223372036854775807 < S.size + 1 := by omega
      have o1 := own_kept HO1.out HX.out (fun _ _ e => e)
      obtain ⟨x, hx⟩ : ∃ x, C[k]? = some x := ⟨_, List.getElem?_eq_getElem (by rw [HNL.out]; exact hlt)⟩
      obtain ⟨g, cc, hv⟩ := own_some o1 (by omega)
      injection hv with hv1 hv2 hv3
      subst hv1
      have HO2 := hide o1
      rw [← HNL.out] at o1
      have HCO := hide (co_of o1 rfl hx)
      have hgx := HG.out x (List.mem_of_getElem? hx)
      obtain ⟨hrng, hkd⟩ := GoodC.rng hgx
      have HLN := hide (line_eq hgx)
      have HTK : Hid (C.take (k + 1) = C.take k ++ [x]) := by show _ = _; rw [List.take_add_one, hx]; rfl
      have hsh := sh_small hkd
      have HFO := hide (sh_fok hkd)
      have HSF := hide (shF_ok hkd)
      have HRG := hide hrng
      obtain ⟨F, hF⟩ : ∃ F, shF x.kd = F := ⟨_, rfl⟩
      have HLM : Hid (lnM x = 32 :: (F.flatMap (fun f => 32 :: fillT f x) ++ [10])) := by show lnM x = _; unfold lnM; rw [hF]
      have HSH := hide (fun V => shape_any V x.kd hkd)
      have HFL := hide (fun V => fields_any V (shapeB x.kd) (strL (shapeB x.kd)) rfl HSF.out.2.2.2)
      have HFe : Hid (fldF [] (strL (shapeB x.kd)) = F) := hF
      rw [HFe.out] at HFL
      rw [hF] at hsh HFO
      have HSM := hide hsh.1
      have hFl := hsh.2
      have k0 := HCO.out.c0
      clear o1 hx hv2 hv3 hgx hrng hkd hsh hF HFe HSF
      obtain ⟨nf, hnf⟩ : ∃ m, F.length = m := ⟨_, rfl⟩
      rw [hnf] at HFL hFl
      have HNF := hide hnf
      clear hnf
      go_wp2_with fail
      refine (HSH.out _).mono ?_
      rintro e wq ⟨rfl, rfl⟩
      go_wp2_with fail
      refine (HFL.out _).mono ?_
      rintro e w4 ⟨vf, rfl, hex4, hown4⟩
      obtain ⟨fa, fc, hfv⟩ := own_len hown4
      subst hfv
      have HOF := hide hown4
      have HX4 := hide (HX.out.trans hex4)
      have HCO4 := hide (HCO.out.other hex4 (fun e => e))
      clear hex4 hown4 c1 k0 HX HCO HSH HFL
      have HS1 : Hid (S ++ ⟨#[32]⟩ = strOfNums ((strL ⟨#[98, 97, 116, 99, 104, 32]⟩ ++ (decL a ++ (strL ⟨#[32, 123, 10]⟩ ++ (C.take k).flatMap chgT))) ++ (32 :: (F.take 0).flatMap (fun f => 32 :: fillT f x)))) := by
        show _ = _
        rw [str_app, ← HS.out]
        rfl
      have hB1 : (S ++ ByteArray.mk #[32]).size ≤ 2000000 + k * 40000 + 1 := by
        rw [ByteArray.size_append]
        have e : (ByteArray.mk #[32]).size = 1 := rfl
        omega
      obtain ⟨T, hT⟩ : ∃ T, strL ⟨#[98, 97, 116, 99, 104, 32]⟩ ++ (decL a ++ (strL ⟨#[32, 123, 10]⟩ ++ (C.take k).flatMap chgT)) = T := ⟨_, rfl⟩
      rw [hT] at HS1
      have HTT := hide hT
      clear hT hz HS
      generalize S ++ ByteArray.mk #[32] = S1 at *
      go_wp2_with fail
      go_loopw [3, 6] (fun s3 s6 wy => ∃ (m : Nat) (S2 : ByteArray), s3 = .string S2 ∧ s6 = .int .i64 m ∧ m ≤ nf ∧ Hid (S2 = strOfNums (T ++ (32 :: (F.take m).flatMap (fun f => 32 :: fillT f x)))) ∧ S2.size ≤ 2000000 + k * 40000 + 1 + m * 3001 ∧ Hid (Ex (fun _ => False) w4 wy)) (fun _ s6 _ => nf - (intOf s6).toNat)
      case atStart => exact ⟨0, S1, rfl, rfl, Nat.zero_le _, HS1, by omega, Ex.refl _ _⟩
      case round =>
        clear HS1 hB1
        obtain ⟨m, S2, rfl, rfl, hm, HS2, hB2, HX5⟩ := hrel
        by_cases hlm : m < nf
        · have hmb : decide ((m : Int) < (nf : Int)) = true := decide_eq_true (by omega)
          have hmi : (m : Int) < (nf : Int) := by omega
          obtain ⟨f, hf⟩ : ∃ f, F[m]? = some f := ⟨_, List.getElem?_eq_getElem (by rw [HNF.out]; exact hlm)⟩
          have hfm := List.mem_of_getElem? hf
          have o2 := own_kept HOF.out HX5.out (fun _ _ e => e)
          obtain ⟨gf, cf2, hv⟩ := own_some o2 (by omega)
          injection hv with hv1 hv2 hv3
          subst hv1
          have o3 := o2
          rw [← HNF.out] at o3
          have cf := strV_cell o3 rfl hf
          have c1 := (HX4.out.trans HX5.out).cell (fun e => e) HC1.out
          have HCO5 := hide (HCO4.out.other HX5.out (fun e => e))
          have HFI := hide (fun V => fill_any V x HRG.out f (HFO.out f hfm))
          have hfl := fill_len HRG.out (HSM.out f hfm)
          obtain ⟨R, hR⟩ : ∃ R, strOfNums (fillT f x) = R := ⟨_, rfl⟩
          have hRs : R.size ≤ 3000 := by rw [← hR, str_size]; exact hfl
          have HS6 : Hid (S2 ++ (⟨#[32]⟩ ++ R) = strOfNums (T ++ (32 :: (F.take (m + 1)).flatMap (fun f => 32 :: fillT f x)))) := by
            show _ = _
            rw [List.take_add_one, hf, Option.toList_some, List.flatMap_append, List.flatMap_singleton, ← List.cons_append, ← List.append_assoc, str_app, ← HS2.out, str_cons, hR]
            rfl
          have hB6 : (S2 ++ (ByteArray.mk #[32] ++ R)).size ≤ 2000000 + k * 40000 + 1 + (m + 1) * 3001 := by
            rw [ByteArray.size_append, ByteArray.size_append]
            have e : (ByteArray.mk #[32]).size = 1 := rfl
            omega
          have hs11 : ¬ 9223372036854775807 < 1 + R.size := by omega
          have hs12 : ¬ 9223372036854775807 < S2.size + (ByteArray.mk #[32] ++ R).size := by
            rw [ByteArray.size_append]
            have e : (ByteArray.mk #[32]).size = 1 := rfl
            omega
          have hs13 : ¬ 9223372036854775807 < S2.size + (1 + R.size) := by omega
          rw [hR] at HFI
          obtain ⟨k0, k1, k2, k3, k4, k5, k6, k7, k8⟩ := HCO5.out
          obtain ⟨ykd, ydv, yhp, ypr, yln, yix, ycl, ypm, yup⟩ := x
          simp only [] at k0 k1 k2 k3 k4 k5 k6 k7 k8
          unfold chV at HFI
          simp only [] at HFI
          clear hR hfl o2 o3 hf hfm hv2 hv3 HCO5
          go_upto_region 10 with fail
          refine wp_region_held_drew (S := fun w' => w'.cell? ⟨gf, m, none⟩ = some (.string (strOfNums f)) ∧ w'.cell? ⟨r, 1, none⟩ = some (.slice (some ⟨g, 0, none⟩) n sc) ∧ w'.cell? ⟨g, k * 9, none⟩ = some (.int .i64 ykd) ∧ w'.cell? ⟨g, k * 9 + 1, none⟩ = some (.int .i64 ydv) ∧ w'.cell? ⟨g, k * 9 + 2, none⟩ = some (.int .i64 yhp) ∧ w'.cell? ⟨g, k * 9 + 3, none⟩ = some (.int .i64 ypr) ∧ w'.cell? ⟨g, k * 9 + 4, none⟩ = some (.int .i64 yln) ∧ w'.cell? ⟨g, k * 9 + 5, none⟩ = some (.int .i64 yix) ∧ w'.cell? ⟨g, k * 9 + 6, none⟩ = some (.int .i64 ycl) ∧ w'.cell? ⟨g, k * 9 + 7, none⟩ = some (.bool ypm) ∧ w'.cell? ⟨g, k * 9 + 8, none⟩ = some (.bool yup)) (by kernel_rfl) (And.intro cf (And.intro c1 (And.intro k0 (And.intro k1 (And.intro k2 (And.intro k3 (And.intro k4 (And.intro k5 (And.intro k6 (And.intro k7 k8)))))))))) (fun hHeld => ?_)
          refine wpAnyH_take (i := 0) (v := ?_) rfl (by kernel_rfl) (by kernel_rfl) (by kernel_rfl) (fun _ _ _ h => h) (Or.inl ⟨by rfl, ?_⟩) (by assumption) ?_
          rotate_left
          · (intro w hSw; (try dsimp only at hSw); go_simp; try (with_reducible rfl))
          try simp only [Act.put, List.getElem_toArray, List.getElem_cons_zero, List.getElem_cons_succ, List.setIfInBounds_toArray, List.set_cons_zero, List.set_cons_succ]
          refine wpAnyH_take (i := 1) (v := ?_) rfl (by kernel_rfl) (by kernel_rfl) (by kernel_rfl) (fun _ _ _ h => h) (Or.inl ⟨by rfl, ?_⟩) (by assumption) ?_
          rotate_left
          · (intro w hSw; (try dsimp only at hSw); go_simp; try (with_reducible rfl))
          try simp only [Act.put, List.getElem_toArray, List.getElem_cons_zero, List.getElem_cons_succ, List.setIfInBounds_toArray, List.set_cons_zero, List.set_cons_succ]
          refine wpAnyH_take (i := 2) (v := ?_) rfl (by kernel_rfl) (by kernel_rfl) (by kernel_rfl) (fun _ _ _ h => h) (Or.inl ⟨by rfl, ?_⟩) (by assumption) ?_
          rotate_left
          · (intro w hSw; (try dsimp only at hSw); go_simp; try (with_reducible rfl))
          try simp only [Act.put, List.getElem_toArray, List.getElem_cons_zero, List.getElem_cons_succ, List.setIfInBounds_toArray, List.set_cons_zero, List.set_cons_succ]
          refine wpAnyH_take (i := 3) (v := ?_) rfl (by kernel_rfl) (by kernel_rfl) (by kernel_rfl) (fun _ _ _ h => h) (Or.inl ⟨by rfl, ?_⟩) (by assumption) ?_
          rotate_left
          · (intro w hSw; (try dsimp only at hSw); go_simp; try (with_reducible rfl))
          try simp only [Act.put, List.getElem_toArray, List.getElem_cons_zero, List.getElem_cons_succ, List.setIfInBounds_toArray, List.set_cons_zero, List.set_cons_succ]
          refine wpAnyH_take (i := 4) (v := ?_) rfl (by kernel_rfl) (by kernel_rfl) (by kernel_rfl) (fun _ _ _ h => h) (Or.inl ⟨by rfl, ?_⟩) (by assumption) ?_
          rotate_left
          · (intro w hSw; (try dsimp only at hSw); go_simp; try (with_reducible rfl))
          try simp only [Act.put, List.getElem_toArray, List.getElem_cons_zero, List.getElem_cons_succ, List.setIfInBounds_toArray, List.set_cons_zero, List.set_cons_succ]
          refine wpAnyH_take (i := 5) (v := ?_) rfl (by kernel_rfl) (by kernel_rfl) (by kernel_rfl) (fun _ _ _ h => h) (Or.inl ⟨by rfl, ?_⟩) (by assumption) ?_
          rotate_left
          · (intro w hSw; (try dsimp only at hSw); go_simp; try (with_reducible rfl))
          try simp only [Act.put, List.getElem_toArray, List.getElem_cons_zero, List.getElem_cons_succ, List.setIfInBounds_toArray, List.set_cons_zero, List.set_cons_succ]
          refine wpAnyH_take (i := 6) (v := ?_) rfl (by kernel_rfl) (by kernel_rfl) (by kernel_rfl) (fun _ _ _ h => h) (Or.inl ⟨by rfl, ?_⟩) (by assumption) ?_
          rotate_left
          · (intro w hSw; (try dsimp only at hSw); go_simp; try (with_reducible rfl))
          try simp only [Act.put, List.getElem_toArray, List.getElem_cons_zero, List.getElem_cons_succ, List.setIfInBounds_toArray, List.set_cons_zero, List.set_cons_succ]
          refine wpAnyH_take (i := 7) (v := ?_) rfl (by kernel_rfl) (by kernel_rfl) (by kernel_rfl) (fun _ _ _ h => h) (Or.inl ⟨by rfl, ?_⟩) (by assumption) ?_
          rotate_left
          · (intro w hSw; (try dsimp only at hSw); go_simp; try (with_reducible rfl))
          try simp only [Act.put, List.getElem_toArray, List.getElem_cons_zero, List.getElem_cons_succ, List.setIfInBounds_toArray, List.set_cons_zero, List.set_cons_succ]
          refine wpAnyH_take (i := 8) (v := ?_) rfl (by kernel_rfl) (by kernel_rfl) (by kernel_rfl) (fun _ _ _ h => h) (Or.inl ⟨by rfl, ?_⟩) (by assumption) ?_
          rotate_left
          · (intro w hSw; (try dsimp only at hSw); go_simp; try (with_reducible rfl))
          try simp only [Act.put, List.getElem_toArray, List.getElem_cons_zero, List.getElem_cons_succ, List.setIfInBounds_toArray, List.set_cons_zero, List.set_cons_succ]
          refine wpAnyH_take (i := 9) (v := ?_) rfl (by kernel_rfl) (by kernel_rfl) (by kernel_rfl) (fun _ _ _ h => h) (Or.inl ⟨by rfl, ?_⟩) (by assumption) ?_
          rotate_left
          · (intro w hSw; (try dsimp only at hSw); go_simp; try (with_reducible rfl))
          try simp only [Act.put, List.getElem_toArray, List.getElem_cons_zero, List.getElem_cons_succ, List.setIfInBounds_toArray, List.set_cons_zero, List.set_cons_succ]
          refine wpAnyH_ready (rs := [10]) (by kernel_rfl) (by simp) ?_
          refine (AllReadyH.cons rfl (fun K hK => ?_) AllReadyH.nil)
          · refine step_call rfl 48 #[.string (strOfNums f), .agg #[.int .i64 ykd, .int .i64 ydv, .int .i64 yhp, .int .i64 ypr, .int .i64 yln, .int .i64 yix, .int .i64 ycl, .bool ypm, .bool yup]] (by simp [go_sem]) (HFI.out _) ?_
            rintro e wI ⟨rfl, hexI⟩
            refine ⟨_, rfl, ?_⟩
            refine hK.out _ _ ?_ (fun hHeld => ?_)
            · exact ⟨hexI.cell (fun e => e) hHeld.1, hexI.cell (fun e => e) hHeld.2.1, hexI.cell (fun e => e) hHeld.2.2.1, hexI.cell (fun e => e) hHeld.2.2.2.1, hexI.cell (fun e => e) hHeld.2.2.2.2.1, hexI.cell (fun e => e) hHeld.2.2.2.2.2.1, hexI.cell (fun e => e) hHeld.2.2.2.2.2.2.1, hexI.cell (fun e => e) hHeld.2.2.2.2.2.2.2.1, hexI.cell (fun e => e) hHeld.2.2.2.2.2.2.2.2.1, hexI.cell (fun e => e) hHeld.2.2.2.2.2.2.2.2.2.1, hexI.cell (fun e => e) hHeld.2.2.2.2.2.2.2.2.2.2⟩
            clear hK K
            try simp only [Act.put, List.getElem_toArray, List.getElem_cons_zero, List.getElem_cons_succ, List.setIfInBounds_toArray, List.set_cons_zero, List.set_cons_succ]
            refine wpAnyH_take (i := 11) (v := ?_) rfl (by kernel_rfl) (by kernel_rfl) (by kernel_rfl) (fun _ _ _ h => h) (Or.inl ⟨by rfl, ?_⟩) (by assumption) ?_
            rotate_left
            · (intro w hSw; (try dsimp only at hSw); go_simp; try (with_reducible rfl))
            try simp only [Act.put, List.getElem_toArray, List.getElem_cons_zero, List.getElem_cons_succ, List.setIfInBounds_toArray, List.set_cons_zero, List.set_cons_succ]
            refine wpAnyH_take (i := 12) (v := ?_) rfl (by kernel_rfl) (by kernel_rfl) (by kernel_rfl) (fun _ _ _ h => h) (Or.inl ⟨by rfl, ?_⟩) (by assumption) ?_
            rotate_left
            · (intro w hSw; (try dsimp only at hSw); go_simp; try (with_reducible rfl))
            try simp only [Act.put, List.getElem_toArray, List.getElem_cons_zero, List.getElem_cons_succ, List.setIfInBounds_toArray, List.set_cons_zero, List.set_cons_succ]
            refine wpAnyH_take (i := 13) (v := ?_) rfl (by kernel_rfl) (by kernel_rfl) (by kernel_rfl) (fun _ _ _ h => h) (Or.inl ⟨by rfl, ?_⟩) (by assumption) ?_
            rotate_left
            · (intro w hSw; (try dsimp only at hSw); go_simp; try (with_reducible rfl))
            try simp only [Act.put, List.getElem_toArray, List.getElem_cons_zero, List.getElem_cons_succ, List.setIfInBounds_toArray, List.set_cons_zero, List.set_cons_succ]
            refine wpAnyH_done (by kernel_rfl) ?_ _
            have HX6 := hide (HX5.out.trans (Ex.of_drew hexI))
            clear hexI hHeld
            go_wp2
            go_roundw
            case rel => exact ⟨m + 1, S2 ++ (⟨#[32]⟩ ++ R), rfl, by go_num, by omega, HS6, hB6, HX6⟩
            case measure => simp [intOf]; omega
        · obtain rfl : m = nf := by omega
          have hmb : decide ((m : Int) < (m : Int)) = false := decide_eq_false (by omega)
          have hz10 : ¬ 9223372036854775807 < S2.size + 1 := by omega
          have HS7 : Hid (S2 ++ ⟨#[10]⟩ = strOfNums (strL ⟨#[98, 97, 116, 99, 104, 32]⟩ ++ (decL a ++ (strL ⟨#[32, 123, 10]⟩ ++ (C.take (k + 1)).flatMap chgT)))) := by
            show _ = _
            rw [HTK.out, List.flatMap_append, List.flatMap_singleton, HLN.out, HLM.out]
            have e := HS2.out
            rw [List.take_of_length_le (by rw [HNF.out]; exact Nat.le_refl _)] at e
            rw [e, ← HTT.out, show ByteArray.mk #[10] = strOfNums [10] from rfl, ← str_app]
            congr 1
            simp only [List.append_assoc, List.cons_append]
          have hB7 : (S2 ++ ByteArray.mk #[10]).size ≤ 2000000 + (k + 1) * 40000 := by
            rw [ByteArray.size_append]
            have e : (ByteArray.mk #[10]).size = 1 := rfl
            omega
          have HX7 := hide (HX4.out.trans HX5.out)
          go_wp2
          go_roundw
          case rel => exact ⟨k + 1, S2 ++ ⟨#[10]⟩, rfl, by go_num, by omega, HS7, hB7, HX7⟩
          case measure => simp [intOf]; omega
    · obtain rfl : k = n := by omega
      have hib : decide ((k : Int) < (k : Int)) = false := decide_eq_false (by omega)
      have hz : ¬ 9223372036854775807 < S.size + 2 := by omega
      have HSF : Hid (S ++ ⟨#[125, 10]⟩ = strOfNums (printT (a : Int) C)) := by
        show _ = _
        have e := HS.out
        rw [List.take_of_length_le (by rw [HNL.out]; exact Nat.le_refl _)] at e
        rw [HT.out, e, ← str_of ⟨#[125, 10]⟩, ← str_app]
        congr 1
        simp only [List.append_assoc]
        rw [str_of]
      go_wp2
      go_ret
      exact ⟨congrArg (fun z => Ending.returned (Value.string z)) HSF.out, HE1.out.trans HX.out⟩
end Go.Proofs.Qxb6500778a
