import Derived.Test.Qxb6500774aMix
import Derived.Test.Qxb6500774aSb0
namespace Go.Proofs.Qxb6500774a
open Go.RowKit
set_option linter.unusedVariables false
set_option linter.unusedSimpArgs false

set_option linter.unusedSimpArgs false in
set_option linter.unusedVariables false in
set_option maxRecDepth 100000 in
set_option maxHeartbeats 32000000 in
theorem spl_len (L : List SP) : ∀ V ∈ L.map spL, V.length = 10 := fun V h => by
  obtain ⟨f, _, rfl⟩ := List.mem_map.1 h
  rfl
set_option linter.unusedSimpArgs false in
set_option linter.unusedVariables false in
set_option maxRecDepth 100000 in
set_option maxHeartbeats 32000000 in
theorem sys_f (A : Y) (hA : YOK false A) : SYS false A := by
  intro w B va vb FA FB hra hta hrb htb hs
  obtain ⟨LA, LB, hFA, hFB, hll, hpp⟩ := st_pairs A B FA FB hA hta htb hs
  subst hFA hFB
  have HRA := hide hra
  have HRB := hide hrb
  have HPP := hide hpp
  have HLL := hide hll
  have HNA := hide hra.len
  have HNB := hide hrb.len
  clear hra hrb hta htb hs hpp hll hA
  unfold slV
  obtain ⟨n, hn⟩ : ∃ n, va.n = n := ⟨_, rfl⟩
  have hn2 : vb.n = n := by rw [← hn, HNB.out.1, HNA.out.1, HLL.out]
  have HN1 := hide hn
  have HN2 := hide hn2
  rw [hn, hn2]
  clear hn hn2
  have HMX : Hid (n ≤ maxLen) := by rw [← HN1.out]; exact HNA.out.2
  have dq : (((n : Nat) : Int) == ((n : Nat) : Int)) = true := by simp
  go_enter Try.func41, Try.ntmps41
  go_wp2_with fail
  refine wp_loop_mix [none, none, none, none, none, none, some 6, some 7, some 8, some 9, some 10, some 11, some 12, none, none, none, none, none, none, none, some 20, some 21, some 22, some 23, some 24, some 25, some 26, some 27, some 28, some 29, some 30, some 31, some 32, some 33, some 34, some 35, some 36, some 37, some 38, some 39, some 40, some 41, some 42, some 43, some 44, some 45, some 46, some 47, some 48, some 49, some 50, some 51, some 52, some 53, some 54, some 55, some 56, some 57, some 58, some 59, some 60, some 61, some 62, some 63, some 64, some 65, some 66, some 67, some 68, some 69, some 70, some 71, some 72, some 73, some 74, some 75, some 76, some 77, some 78, some 79, some 80, some 81, some 82, some 83, some 84, some 85, some 86, some 87, some 88, some 89, some 90, some 91, some 92, some 93, some 94, some 95, some 96, some 97, some 98, some 99, some 100, some 101, some 102, some 103, some 104, some 105, some 106, some 107, some 108, some 109, some 110, some 111, some 112, some 113, some 114, some 115, some 116, some 117, some 118, some 119, some 120, some 121, some 122, some 123, some 124, some 125, some 126, some 127, some 128, some 129, some 130, some 131, some 132, some 133, some 134, some 135, some 136, some 137, some 138, some 139, some 140, some 141, some 142, some 143, some 144, some 145, some 146, some 147, some 148, some 149, some 150, some 151, some 152, some 153, some 154, some 155, some 156, some 157, some 158, some 159, some 160, some 161, some 162, some 163, some 164, some 165, some 166, some 167, some 168, some 169, some 170, some 171, some 172, some 173, some 174, some 175, some 176, some 177, some 178, some 179, some 180, some 181, some 182, some 183, some 184, some 185, some 186, some 187, some 188, some 189, some 190, some 191, some 192, some 193, some 194, some 195, some 196, some 197, some 198, some 199, some 200, some 201, some 202, some 203, some 204, some 205, some 206, some 207, some 208, some 209, some 210, some 211, some 212, some 213, some 214, some 215, some 216, some 217, some 218, some 219, some 220, some 221, some 222, some 223, some 224, some 225] (by kernel_rfl) (fun us wy => (fun s20 wr => ∃ (k : Nat), k ≤ n ∧ s20 = .int .i64 k ∧ Ex (fun _ => False) w wr) (us 20) wy) (fun us wy => (fun s20 _ => n - (intOf s20).toNat) (us 20) wy) ?atStart ?round
  case atStart => (dsimp only [getL]; exact ⟨0, Nat.zero_le _, rfl, Ex.refl _ _⟩)
  case round =>
    intro us wr hrel J1 hJ1
    dsimp only at hrel hJ1
    dsimp only [mixF]
    generalize us 20 = s20 at hrel hJ1 ⊢
    have HJ1 := hide hJ1
    clear hJ1
    obtain ⟨k, hk, rfl, hex⟩ := hrel
    have HX := hide hex
    clear hex
    by_cases hlt : k < n
    · have d1 : decide ((k : Int) < (n : Int)) = true := decide_eq_true (by omega)
      have d1n : decide (k < n) = true := decide_eq_true hlt
      have hwk : IntKind.i64.wrap ((k : Int) + 1) = ((k + 1 : Nat) : Int) := wrk (by have := HMX.out; unfold maxLen at this; omega)
      obtain ⟨f, hf⟩ : ∃ y, LA[k]? = some y := ⟨_, List.getElem?_eq_getElem (by rw [← HNA.out.1, HN1.out]; exact hlt)⟩
      obtain ⟨g, hg⟩ : ∃ y, LB[k]? = some y := ⟨_, List.getElem?_eq_getElem (by rw [← HNB.out.1, HN2.out]; exact hlt)⟩
      have HSM := hide ((HPP.out k f g hf hg).low HX.out)
      obtain ⟨ga, hqa, _, _⟩ := HRA.out.2.2 (show 0 < va.n by rw [HN1.out]; omega)
      obtain ⟨gb, hqb, _, _⟩ := HRB.out.2.2 (show 0 < vb.n by rw [HN2.out]; omega)
      have HRa := hide (RW.row (L := LA) (F := spL) (g := ga) (n := va.n) (c := va.c) (by rw [← hqa]; exact HRA.out.low HX.out) hf)
      have HRb := hide (RW.row (L := LB) (F := spL) (g := gb) (n := vb.n) (c := vb.c) (by rw [← hqb]; exact HRB.out.low HX.out) hg)
      rw [hqa, hqb]
      have a0 := HRa.out.1.at (fun V h => spl_len LA V h) HRa.out.2 (j := 0) (by decide) (v := .int .i64 f.k) rfl
      have a1 := HRa.out.1.at (fun V h => spl_len LA V h) HRa.out.2 (j := 1) (by decide) (v := .string f.x) rfl
      have a2 := HRa.out.1.at (fun V h => spl_len LA V h) HRa.out.2 (j := 2) (by decide) (v := .slice f.ex.q f.ex.n f.ex.c) rfl
      have a3 := HRa.out.1.at (fun V h => spl_len LA V h) HRa.out.2 (j := 3) (by decide) (v := .slice f.ar.q f.ar.n f.ar.c) rfl
      have a4 := HRa.out.1.at (fun V h => spl_len LA V h) HRa.out.2 (j := 4) (by decide) (v := .slice f.el.q f.el.n f.el.c) rfl
      have a5 := HRa.out.1.at (fun V h => spl_len LA V h) HRa.out.2 (j := 5) (by decide) (v := .slice f.bo.q f.bo.n f.bo.c) rfl
      have a6 := HRa.out.1.at (fun V h => spl_len LA V h) HRa.out.2 (j := 6) (by decide) (v := .slice f.ag.q f.ag.n f.ag.c) rfl
      have a7 := HRa.out.1.at (fun V h => spl_len LA V h) HRa.out.2 (j := 7) (by decide) (v := .slice f.co.q f.co.n f.co.c) rfl
      have a8 := HRa.out.1.at (fun V h => spl_len LA V h) HRa.out.2 (j := 8) (by decide) (v := .int .i64 f.li) rfl
      have a9 := HRa.out.1.at (fun V h => spl_len LA V h) HRa.out.2 (j := 9) (by decide) (v := .int .i64 f.cl) rfl
      rw [Nat.add_zero] at a0
      have b0 := HRb.out.1.at (fun V h => spl_len LB V h) HRb.out.2 (j := 0) (by decide) (v := .int .i64 g.k) rfl
      have b1 := HRb.out.1.at (fun V h => spl_len LB V h) HRb.out.2 (j := 1) (by decide) (v := .string g.x) rfl
      have b2 := HRb.out.1.at (fun V h => spl_len LB V h) HRb.out.2 (j := 2) (by decide) (v := .slice g.ex.q g.ex.n g.ex.c) rfl
      have b3 := HRb.out.1.at (fun V h => spl_len LB V h) HRb.out.2 (j := 3) (by decide) (v := .slice g.ar.q g.ar.n g.ar.c) rfl
      have b4 := HRb.out.1.at (fun V h => spl_len LB V h) HRb.out.2 (j := 4) (by decide) (v := .slice g.el.q g.el.n g.el.c) rfl
      have b5 := HRb.out.1.at (fun V h => spl_len LB V h) HRb.out.2 (j := 5) (by decide) (v := .slice g.bo.q g.bo.n g.bo.c) rfl
      have b6 := HRb.out.1.at (fun V h => spl_len LB V h) HRb.out.2 (j := 6) (by decide) (v := .slice g.ag.q g.ag.n g.ag.c) rfl
      have b7 := HRb.out.1.at (fun V h => spl_len LB V h) HRb.out.2 (j := 7) (by decide) (v := .slice g.co.q g.co.n g.co.c) rfl
      have b8 := HRb.out.1.at (fun V h => spl_len LB V h) HRb.out.2 (j := 8) (by decide) (v := .int .i64 g.li) rfl
      have b9 := HRb.out.1.at (fun V h => spl_len LB V h) HRb.out.2 (j := 9) (by decide) (v := .int .i64 g.cl) rfl
      rw [Nat.add_zero] at b0
      have HQA := hide hqa
      have HQB := hide hqb
      clear hf hg hqa hqb HRa HRb
      go_upto_region 6 with fail
      go_cut [20, 7, 8, 9] (fun s20 s7 s8 s9 wx => ∃ r8 r9, s20 = .int .i64 k ∧ s7 = .int .i64 k ∧ s8 = .pointer (some ⟨r8, 0, none⟩) ∧ s9 = .pointer (some ⟨r9, 0, none⟩) ∧ SK wx r8 f ∧ SK wx r9 g ∧ Ex (fun _ => False) wr wx)
      case first =>
        refine wp_region_held_drew (S := fun w' => Ex (fun _ => False) wr w') (by kernel_rfl) ((Ex.refl _ _).drew) (fun hHeld => ?_)
        refine wpAnyH_take (i := 0) (v := ?_) rfl (by kernel_rfl) (by kernel_rfl) (by kernel_rfl) (fun _ _ _ h => h) (Or.inl ⟨by rfl, ?_⟩) (by assumption) ?_
        rotate_left
        · (intro w hSw; (try dsimp only at hSw); go_simp; try (with_reducible rfl))
        try simp only [Act.put, List.getElem_toArray, List.getElem_cons_zero, List.getElem_cons_succ, List.setIfInBounds_toArray, List.set_cons_zero, List.set_cons_succ]
        refine wpAnyH_take (i := 1) (v := ?_) rfl (by kernel_rfl) (by kernel_rfl) (by kernel_rfl) (fun _ _ _ h => h) (Or.inl ⟨by rfl, ?_⟩) (by assumption) ?_
        rotate_left
        · (intro w hSw; (try dsimp only at hSw); go_simp; try (with_reducible rfl))
        try simp only [Act.put, List.getElem_toArray, List.getElem_cons_zero, List.getElem_cons_succ, List.setIfInBounds_toArray, List.set_cons_zero, List.set_cons_succ]
        refine wpAnyH_take (i := 2) (v := ?_) rfl (by kernel_rfl) (by kernel_rfl) (by kernel_rfl) (fun _ _ _ h => h) (Or.inl ⟨by rfl, ?_⟩) (by assumption) ?_
        rotate_left
        · (intro w hSw; (try dsimp only at hSw); go_simp; try (with_reducible rfl))
        try simp only [Act.put, List.getElem_toArray, List.getElem_cons_zero, List.getElem_cons_succ, List.setIfInBounds_toArray, List.set_cons_zero, List.set_cons_succ]
        refine wpAnyH_take (i := 3) (v := ?_) rfl (by kernel_rfl) (by kernel_rfl) (by kernel_rfl) (fun _ _ _ h => h) (Or.inl ⟨by rfl, ?_⟩) (by assumption) ?_
        rotate_left
        · (intro w hSw; (try dsimp only at hSw); (have qa0 := hSw.cell (fun z => z) a0; have qa1 := hSw.cell (fun z => z) a1; have qa2 := hSw.cell (fun z => z) a2; have qa3 := hSw.cell (fun z => z) a3; have qa4 := hSw.cell (fun z => z) a4; have qa5 := hSw.cell (fun z => z) a5; have qa6 := hSw.cell (fun z => z) a6; have qa7 := hSw.cell (fun z => z) a7; have qa8 := hSw.cell (fun z => z) a8; have qa9 := hSw.cell (fun z => z) a9); go_simp; try (with_reducible rfl))
        try simp only [Act.put, List.getElem_toArray, List.getElem_cons_zero, List.getElem_cons_succ, List.setIfInBounds_toArray, List.set_cons_zero, List.set_cons_succ]
        refine wpAnyH_take (i := 4) (v := ?_) rfl (by kernel_rfl) (by kernel_rfl) (by kernel_rfl) (fun _ _ _ h => h) (Or.inl ⟨by rfl, ?_⟩) (by assumption) ?_
        rotate_left
        · (intro w hSw; (try dsimp only at hSw); go_simp; try (with_reducible rfl))
        try simp only [Act.put, List.getElem_toArray, List.getElem_cons_zero, List.getElem_cons_succ, List.setIfInBounds_toArray, List.set_cons_zero, List.set_cons_succ]
        refine wpAnyH_take (i := 5) (v := ?_) rfl (by kernel_rfl) (by kernel_rfl) (by kernel_rfl) (fun _ _ _ h => h) (Or.inl ⟨by rfl, ?_⟩) (by assumption) ?_
        rotate_left
        · (intro w hSw; (try dsimp only at hSw); go_simp; try (with_reducible rfl))
        try simp only [Act.put, List.getElem_toArray, List.getElem_cons_zero, List.getElem_cons_succ, List.setIfInBounds_toArray, List.set_cons_zero, List.set_cons_succ]
        refine wpAnyH_take (i := 6) (v := ?_) rfl (by kernel_rfl) (by kernel_rfl) (by kernel_rfl) (fun _ _ _ h => h) (Or.inl ⟨by rfl, ?_⟩) (by assumption) ?_
        rotate_left
        · (intro w hSw; (try dsimp only at hSw); go_simp; try (with_reducible rfl))
        try simp only [Act.put, List.getElem_toArray, List.getElem_cons_zero, List.getElem_cons_succ, List.setIfInBounds_toArray, List.set_cons_zero, List.set_cons_succ]
        refine wpAnyH_take (i := 7) (v := ?_) rfl (by kernel_rfl) (by kernel_rfl) (by kernel_rfl) (fun _ _ _ h => h) (Or.inl ⟨by rfl, ?_⟩) (by assumption) ?_
        rotate_left
        · (intro w hSw; (try dsimp only at hSw); (have qb0 := hSw.cell (fun z => z) b0; have qb1 := hSw.cell (fun z => z) b1; have qb2 := hSw.cell (fun z => z) b2; have qb3 := hSw.cell (fun z => z) b3; have qb4 := hSw.cell (fun z => z) b4; have qb5 := hSw.cell (fun z => z) b5; have qb6 := hSw.cell (fun z => z) b6; have qb7 := hSw.cell (fun z => z) b7; have qb8 := hSw.cell (fun z => z) b8; have qb9 := hSw.cell (fun z => z) b9); go_simp; try (with_reducible rfl))
        try simp only [Act.put, List.getElem_toArray, List.getElem_cons_zero, List.getElem_cons_succ, List.setIfInBounds_toArray, List.set_cons_zero, List.set_cons_succ]
        generalize hwd : wr.drew = wd at *
        have HWD : Hid (Ex (fun _ => False) wr wd) := hHeld
        have hsz : (wd.alloc (spO sp0)).heap.size = wd.heap.size + 1 := Array.size_push _
        clear hwd
        refine wpAnyH_ready (rs := [8, 9]) (by kernel_rfl) (by simp) ?_
        refine (AllReadyH.cons rfl (fun K hK => ?_) (AllReadyH.cons rfl (fun K hK => ?_) AllReadyH.nil))
        · go_simp
          refine hK.out _ (wd.alloc (spO sp0)) ?_ (fun hHeld => ?_)
          · exact HWD.out.alloc _
          clear hK K
          try simp only [Act.put, List.getElem_toArray, List.getElem_cons_zero, List.getElem_cons_succ, List.setIfInBounds_toArray, List.set_cons_zero, List.set_cons_succ]
          have HKA := hide (SK.new wd sp0)
          have HWA : Hid (Ex (fun _ => False) wr (wd.alloc (spO sp0))) := hHeld
          have hge := HWD.out.size
          clear HWD
          generalize wd.alloc (spO sp0) = wa at *
          refine wpAnyH_ready (rs := [9]) (by kernel_rfl) (by simp) ?_
          refine (AllReadyH.cons rfl (fun K hK => ?_) AllReadyH.nil)
          · go_simp
            refine hK.out _ (wa.alloc (spO sp0)) ?_ (fun hHeld => ?_)
            · exact HWA.out.alloc _
            clear hK K
            try simp only [Act.put, List.getElem_toArray, List.getElem_cons_zero, List.getElem_cons_succ, List.setIfInBounds_toArray, List.set_cons_zero, List.set_cons_succ]
            have HS9 := hide (SK.new wa sp0)
            have HS8 := hide (HKA.out.keep ((Ex.refl (fun _ => False) wa).alloc (spO sp0)) (fun z => z))
            have HWwb : Hid (Ex (fun _ => False) wr (wa.alloc (spO sp0))) := hHeld
            clear HKA HWA
            rw [hsz] at HS9
            clear hsz
            generalize hrA : wd.heap.size = r8 at *
            generalize hrB : r8 + 1 = r9 at *
            have HNE : Hid (r8 ≠ r9) := by show _ ≠ _; omega
            have hge8 : Hid (wr.heap.size ≤ r8) := hge
            have hge9 : Hid (wr.heap.size ≤ r9) := by show _ ≤ _; omega
            clear hge hrA hrB
            generalize wa.alloc (spO sp0) = wb at *
            refine wpAnyH_ready (rs := [10]) (by kernel_rfl) (by simp) ?_
            refine (AllReadyH.cons rfl (fun K hK => ?_) AllReadyH.nil)
            · have t0 := HS8.out.c0
              have t1 := HS8.out.c1
              have t2 := HS8.out.c2
              have t3 := HS8.out.c3
              have t4 := HS8.out.c4
              have t5 := HS8.out.c5
              have t6 := HS8.out.c6
              have t7 := HS8.out.c7
              have t8 := HS8.out.c8
              have t9 := HS8.out.c9
              have z0 := HS8.out.fz 0
              have z1 := HS8.out.fz 1
              have z2 := HS8.out.fz 2
              have z3 := HS8.out.fz 3
              have z4 := HS8.out.fz 4
              have z5 := HS8.out.fz 5
              have z6 := HS8.out.fz 6
              have z7 := HS8.out.fz 7
              have z8 := HS8.out.fz 8
              have z9 := HS8.out.fz 9
              go_simp
              refine hK.out _ (set10 wb r8 f) ?_ (fun hHeld => ?_)
              · exact ex_set10 HWwb.out hge8.out
              clear hK K t0 t1 t2 t3 t4 t5 t6 t7 t8 t9 z0 z1 z2 z3 z4 z5 z6 z7 z8 z9
              try simp only [Act.put, List.getElem_toArray, List.getElem_cons_zero, List.getElem_cons_succ, List.setIfInBounds_toArray, List.set_cons_zero, List.set_cons_succ]
              have HT8 := hide (sk_s10 (g := f) HS8.out)
              have HT9 := hide (sk_o10 (g := f) HS9.out HNE.out.symm)
              have HWws : Hid (Ex (fun _ => False) wr (set10 wb r8 f)) := hHeld
              clear HS8 HS9 HWwb
              generalize set10 wb r8 f = ws at *
              refine wpAnyH_ready (rs := [11]) (by kernel_rfl) (by simp) ?_
              refine (AllReadyH.cons rfl (fun K hK => ?_) AllReadyH.nil)
              · have t0 := HT9.out.c0
                have t1 := HT9.out.c1
                have t2 := HT9.out.c2
                have t3 := HT9.out.c3
                have t4 := HT9.out.c4
                have t5 := HT9.out.c5
                have t6 := HT9.out.c6
                have t7 := HT9.out.c7
                have t8 := HT9.out.c8
                have t9 := HT9.out.c9
                have z0 := HT9.out.fz 0
                have z1 := HT9.out.fz 1
                have z2 := HT9.out.fz 2
                have z3 := HT9.out.fz 3
                have z4 := HT9.out.fz 4
                have z5 := HT9.out.fz 5
                have z6 := HT9.out.fz 6
                have z7 := HT9.out.fz 7
                have z8 := HT9.out.fz 8
                have z9 := HT9.out.fz 9
                go_simp
                refine hK.out _ (set10 ws r9 g) ?_ (fun hHeld => ?_)
                · exact ex_set10 HWws.out hge9.out
                clear hK K t0 t1 t2 t3 t4 t5 t6 t7 t8 t9 z0 z1 z2 z3 z4 z5 z6 z7 z8 z9
                try simp only [Act.put, List.getElem_toArray, List.getElem_cons_zero, List.getElem_cons_succ, List.setIfInBounds_toArray, List.set_cons_zero, List.set_cons_succ]
                have HF8 := hide (sk_o10 (g := g) HT8.out HNE.out)
                have HF9 := hide (sk_s10 (g := g) HT9.out)
                have HWF : Hid (Ex (fun _ => False) wr (set10 ws r9 g)) := hHeld
                clear HT8 HT9 HWws
                generalize set10 ws r9 g = wf at *
                refine wpAnyH_done (by kernel_rfl) ?_ _
                go_wp2
                go_meet
                case rel => (try dsimp only [rdA, getL]); (exact ⟨r8, r9, rfl, rfl, rfl, rfl, HF8.out, HF9.out, HWF.out⟩)
        · go_simp
          refine hK.out _ (wd.alloc (spO sp0)) ?_ (fun hHeld => ?_)
          · exact HWD.out.alloc _
          clear hK K
          try simp only [Act.put, List.getElem_toArray, List.getElem_cons_zero, List.getElem_cons_succ, List.setIfInBounds_toArray, List.set_cons_zero, List.set_cons_succ]
          have HKA := hide (SK.new wd sp0)
          have HWA : Hid (Ex (fun _ => False) wr (wd.alloc (spO sp0))) := hHeld
          have hge := HWD.out.size
          clear HWD
          generalize wd.alloc (spO sp0) = wa at *
          refine wpAnyH_ready (rs := [8]) (by kernel_rfl) (by simp) ?_
          refine (AllReadyH.cons rfl (fun K hK => ?_) AllReadyH.nil)
          · go_simp
            refine hK.out _ (wa.alloc (spO sp0)) ?_ (fun hHeld => ?_)
            · exact HWA.out.alloc _
            clear hK K
            try simp only [Act.put, List.getElem_toArray, List.getElem_cons_zero, List.getElem_cons_succ, List.setIfInBounds_toArray, List.set_cons_zero, List.set_cons_succ]
            have HS8 := hide (SK.new wa sp0)
            have HS9 := hide (HKA.out.keep ((Ex.refl (fun _ => False) wa).alloc (spO sp0)) (fun z => z))
            have HWwb : Hid (Ex (fun _ => False) wr (wa.alloc (spO sp0))) := hHeld
            clear HKA HWA
            rw [hsz] at HS8
            clear hsz
            generalize hrA : wd.heap.size = r9 at *
            generalize hrB : r9 + 1 = r8 at *
            have HNE : Hid (r8 ≠ r9) := by show _ ≠ _; omega
            have hge9 : Hid (wr.heap.size ≤ r9) := hge
            have hge8 : Hid (wr.heap.size ≤ r8) := by show _ ≤ _; omega
            clear hge hrA hrB
            generalize wa.alloc (spO sp0) = wb at *
            refine wpAnyH_ready (rs := [10]) (by kernel_rfl) (by simp) ?_
            refine (AllReadyH.cons rfl (fun K hK => ?_) AllReadyH.nil)
            · have t0 := HS8.out.c0
              have t1 := HS8.out.c1
              have t2 := HS8.out.c2
              have t3 := HS8.out.c3
              have t4 := HS8.out.c4
              have t5 := HS8.out.c5
              have t6 := HS8.out.c6
              have t7 := HS8.out.c7
              have t8 := HS8.out.c8
              have t9 := HS8.out.c9
              have z0 := HS8.out.fz 0
              have z1 := HS8.out.fz 1
              have z2 := HS8.out.fz 2
              have z3 := HS8.out.fz 3
              have z4 := HS8.out.fz 4
              have z5 := HS8.out.fz 5
              have z6 := HS8.out.fz 6
              have z7 := HS8.out.fz 7
              have z8 := HS8.out.fz 8
              have z9 := HS8.out.fz 9
              go_simp
              refine hK.out _ (set10 wb r8 f) ?_ (fun hHeld => ?_)
              · exact ex_set10 HWwb.out hge8.out
              clear hK K t0 t1 t2 t3 t4 t5 t6 t7 t8 t9 z0 z1 z2 z3 z4 z5 z6 z7 z8 z9
              try simp only [Act.put, List.getElem_toArray, List.getElem_cons_zero, List.getElem_cons_succ, List.setIfInBounds_toArray, List.set_cons_zero, List.set_cons_succ]
              have HT8 := hide (sk_s10 (g := f) HS8.out)
              have HT9 := hide (sk_o10 (g := f) HS9.out HNE.out.symm)
              have HWws : Hid (Ex (fun _ => False) wr (set10 wb r8 f)) := hHeld
              clear HS8 HS9 HWwb
              generalize set10 wb r8 f = ws at *
              refine wpAnyH_ready (rs := [11]) (by kernel_rfl) (by simp) ?_
              refine (AllReadyH.cons rfl (fun K hK => ?_) AllReadyH.nil)
              · have t0 := HT9.out.c0
                have t1 := HT9.out.c1
                have t2 := HT9.out.c2
                have t3 := HT9.out.c3
                have t4 := HT9.out.c4
                have t5 := HT9.out.c5
                have t6 := HT9.out.c6
                have t7 := HT9.out.c7
                have t8 := HT9.out.c8
                have t9 := HT9.out.c9
                have z0 := HT9.out.fz 0
                have z1 := HT9.out.fz 1
                have z2 := HT9.out.fz 2
                have z3 := HT9.out.fz 3
                have z4 := HT9.out.fz 4
                have z5 := HT9.out.fz 5
                have z6 := HT9.out.fz 6
                have z7 := HT9.out.fz 7
                have z8 := HT9.out.fz 8
                have z9 := HT9.out.fz 9
                go_simp
                refine hK.out _ (set10 ws r9 g) ?_ (fun hHeld => ?_)
                · exact ex_set10 HWws.out hge9.out
                clear hK K t0 t1 t2 t3 t4 t5 t6 t7 t8 t9 z0 z1 z2 z3 z4 z5 z6 z7 z8 z9
                try simp only [Act.put, List.getElem_toArray, List.getElem_cons_zero, List.getElem_cons_succ, List.setIfInBounds_toArray, List.set_cons_zero, List.set_cons_succ]
                have HF8 := hide (sk_o10 (g := g) HT8.out HNE.out)
                have HF9 := hide (sk_s10 (g := g) HT9.out)
                have HWF : Hid (Ex (fun _ => False) wr (set10 ws r9 g)) := hHeld
                clear HT8 HT9 HWws
                generalize set10 ws r9 g = wf at *
                refine wpAnyH_done (by kernel_rfl) ?_ _
                go_wp2
                go_meet
                case rel => (try dsimp only [rdA, getL]); (exact ⟨r8, r9, rfl, rfl, rfl, rfl, HF8.out, HF9.out, HWF.out⟩)
      obtain ⟨r8, r9, rfl, rfl, rfl, rfl, hk8, hk9, hexc⟩ := hcut
      have HX := hide (HX.out.trans hexc)
      have HSX := hide (HSM.out.low hexc)
      clear HSM
      have HSM := HSX
      have HK8 := hide hk8
      have HK9 := hide hk9
      have HEK := hide HSM.out.k
      have HEQX : Hid (f.x = g.x) := ba_eq (by have := HSM.out.x; simpa using this)
      have HLR : Hid (f.ar.n = g.ar.n) := by obtain ⟨L1, L2, d1, d2, d3, _⟩ := HSM.out.ar; show _ = _; rw [d1.len.1, d2.len.1, d3]
      have HLG : Hid (f.ag.n = g.ag.n) := by obtain ⟨L1, L2, d1, d2, d3, _⟩ := HSM.out.ag; show _ = _; rw [d1.len.1, d2.len.1, d3]
      have HLC : Hid (f.co.n = g.co.n) := by obtain ⟨L1, L2, d1, d2, d3, _⟩ := HSM.out.co; show _ = _; rw [d1.len.1, d2.len.1, d3]
      clear hexc HSX hk8 hk9 a0 a1 a2 a3 a4 a5 a6 a7 a8 a9 b0 b1 b2 b3 b4 b5 b6 b7 b8 b9
      have ka0 := HK8.out.c0
      have kb0 := HK9.out.c0
      have ka1 := HK8.out.c1
      have kb1 := HK9.out.c1
      have ka2 := HK8.out.c2
      have kb2 := HK9.out.c2
      have ka3 := HK8.out.c3
      have kb3 := HK9.out.c3
      have ka4 := HK8.out.c4
      have kb4 := HK9.out.c4
      have ka5 := HK8.out.c5
      have kb5 := HK9.out.c5
      have ka6 := HK8.out.c6
      have kb6 := HK9.out.c6
      have ka7 := HK8.out.c7
      have kb7 := HK9.out.c7
      rw [← HEK.out] at kb0
      rw [← HEQX.out] at kb1
      rw [← HLR.out] at kb3
      rw [← HLG.out] at kb6
      rw [← HLC.out] at kb7
      go_upto_region 9 with fail
      go_wp2_with fail
      refine (HSM.out.ex _ (Ex.refl _ _)).mono ?_
      rintro e9 w4 ⟨rfl, hexn⟩
      have HSX := hide (HSM.out.low hexn)
      have HK8 := hide (HK8.out.keep hexn (fun z => z))
      have HK9 := hide (HK9.out.keep hexn (fun z => z))
      have HX := hide (HX.out.trans hexn)
      clear HSM
      have HSM := HSX
      clear hexn HSX
      clear ka0 kb0 ka1 kb1 ka2 kb2 ka3 kb3 ka4 kb4 ka5 kb5 ka6 kb6 ka7 kb7
      have ka0 := HK8.out.c0
      have kb0 := HK9.out.c0
      have ka1 := HK8.out.c1
      have kb1 := HK9.out.c1
      have ka2 := HK8.out.c2
      have kb2 := HK9.out.c2
      have ka3 := HK8.out.c3
      have kb3 := HK9.out.c3
      have ka4 := HK8.out.c4
      have kb4 := HK9.out.c4
      have ka5 := HK8.out.c5
      have kb5 := HK9.out.c5
      have ka6 := HK8.out.c6
      have kb6 := HK9.out.c6
      have ka7 := HK8.out.c7
      have kb7 := HK9.out.c7
      rw [← HEK.out] at kb0
      rw [← HEQX.out] at kb1
      rw [← HLR.out] at kb3
      rw [← HLG.out] at kb6
      rw [← HLC.out] at kb7
      simp only []
      go_wp2_with fail
      refine (HSM.out.el _ (Ex.refl _ _)).mono ?_
      rintro e9 w5 ⟨rfl, hexn⟩
      have HSX := hide (HSM.out.low hexn)
      have HK8 := hide (HK8.out.keep hexn (fun z => z))
      have HK9 := hide (HK9.out.keep hexn (fun z => z))
      have HX := hide (HX.out.trans hexn)
      clear HSM
      have HSM := HSX
      clear hexn HSX
      clear ka0 kb0 ka1 kb1 ka2 kb2 ka3 kb3 ka4 kb4 ka5 kb5 ka6 kb6 ka7 kb7
      have ka0 := HK8.out.c0
      have kb0 := HK9.out.c0
      have ka1 := HK8.out.c1
      have kb1 := HK9.out.c1
      have ka2 := HK8.out.c2
      have kb2 := HK9.out.c2
      have ka3 := HK8.out.c3
      have kb3 := HK9.out.c3
      have ka4 := HK8.out.c4
      have kb4 := HK9.out.c4
      have ka5 := HK8.out.c5
      have kb5 := HK9.out.c5
      have ka6 := HK8.out.c6
      have kb6 := HK9.out.c6
      have ka7 := HK8.out.c7
      have kb7 := HK9.out.c7
      rw [← HEK.out] at kb0
      rw [← HEQX.out] at kb1
      rw [← HLR.out] at kb3
      rw [← HLG.out] at kb6
      rw [← HLC.out] at kb7
      simp only []
      go_wp2_with fail
      refine (HSM.out.bo _ (Ex.refl _ _)).mono ?_
      rintro e9 w6 ⟨rfl, hexn⟩
      have HSX := hide (HSM.out.low hexn)
      have HK8 := hide (HK8.out.keep hexn (fun z => z))
      have HK9 := hide (HK9.out.keep hexn (fun z => z))
      have HX := hide (HX.out.trans hexn)
      clear HSM
      have HSM := HSX
      clear hexn HSX
      clear ka0 kb0 ka1 kb1 ka2 kb2 ka3 kb3 ka4 kb4 ka5 kb5 ka6 kb6 ka7 kb7
      have ka0 := HK8.out.c0
      have kb0 := HK9.out.c0
      have ka1 := HK8.out.c1
      have kb1 := HK9.out.c1
      have ka2 := HK8.out.c2
      have kb2 := HK9.out.c2
      have ka3 := HK8.out.c3
      have kb3 := HK9.out.c3
      have ka4 := HK8.out.c4
      have kb4 := HK9.out.c4
      have ka5 := HK8.out.c5
      have kb5 := HK9.out.c5
      have ka6 := HK8.out.c6
      have kb6 := HK9.out.c6
      have ka7 := HK8.out.c7
      have kb7 := HK9.out.c7
      rw [← HEK.out] at kb0
      rw [← HEQX.out] at kb1
      rw [← HLR.out] at kb3
      rw [← HLG.out] at kb6
      rw [← HLC.out] at kb7
      simp only []
      go_upto_region 11 with fail
      obtain ⟨LAa, LBa, hra, hrb, hlr, hpr⟩ := HSM.out.ar
      have HRAa := hide hra
      have HRBa := hide hrb
      have HPa := hide hpr
      have HLa := hide hlr
      clear hra hrb hlr hpr
      obtain ⟨na, hna⟩ : ∃ n, f.ar.n = n := ⟨_, rfl⟩
      have HNa := hide hna
      rw [hna] at ka3 kb3
      clear hna
      go_upto_region 12 with fail
      clear ka0 kb0 ka1 kb1 ka2 kb2 ka3 kb3 ka4 kb4 ka5 kb5 ka6 kb6 ka7 kb7
      refine wp_loop_mix [none, none, none, none, none, none, some 6, none, none, none, some 10, none, none, none, none, none, none, none, none, none, none, none, none, none, none, none, none, none, none, none, none, none, none, none, none, none, none, none, none, none, none, none, none, none, none, none, none, none, none, none, none, none, none, none, none, none, none, none, none, none, none, none, none, none, none, none, none, none, none, none, none, none, none, none, none, none, none, none, none, none, none, none, none, none, none, none, none, none, none, none, none, none, none, none, none, none, none, none, none, none, none, none, none, none, none, none, none, none, none, none, none, none, none, none, none, some 115, some 116, some 117, some 118, some 119, some 120, some 121, some 122, some 123, some 124, some 125, some 126, some 127, some 128, some 129, some 130, some 131, some 132, some 133, some 134, some 135, some 136, some 137, some 138, some 139, some 140, some 141, some 142, some 143, some 144, some 145, some 146, some 147, some 148, some 149, some 150, none, none, none, none, none, none, none, none, none, none, none, none, none, none, none, none, none, none, none, none, none, none, none, none, none, none, none, none, none, none, none, none, none, none, none, none, none, none, none, none, none, none, none, none, none, none, none, none, none, none, none, none, none, none, none, none, none, none, none, none, none, none, none, none, none, none, none, none, none, none, none, none, none, none, none] (by kernel_rfl) (fun us wy => (fun s115 wr => ∃ (k2 : Nat), k2 ≤ na ∧ s115 = .int .i64 k2 ∧ Ex (fun _ => False) w6 wr) (us 115) wy) (fun us wy => (fun s115 _ => na - (intOf s115).toNat) (us 115) wy) ?atStart ?round
      case atStart => (dsimp only [getL]; exact ⟨0, Nat.zero_le _, rfl, Ex.refl _ _⟩)
      case round =>
        intro us wr hrel J2 hJ2
        dsimp only at hrel hJ2
        dsimp only [mixF]
        generalize us 115 = s115 at hrel hJ2 ⊢
        have HJ2 := hide hJ2
        clear hJ2
        obtain ⟨k2, hk2, rfl, hex⟩ := hrel
        have HX2 := hide hex
        clear hex
        by_cases hlt2 : k2 < na
        · have e1 : decide ((k2 : Int) < (na : Int)) = true := decide_eq_true (by omega)
          have e1n : decide (k2 < na) = true := decide_eq_true hlt2
          have hwk2 : IntKind.i64.wrap ((k2 : Int) + 1) = ((k2 + 1 : Nat) : Int) := wrk (by have := HRAa.out.len.2; rw [HNa.out] at this; unfold maxLen at this; omega)
          obtain ⟨y, hy⟩ : ∃ y, LAa[k2]? = some y := ⟨_, List.getElem?_eq_getElem (by rw [← HRAa.out.len.1, HNa.out]; exact hlt2)⟩
          obtain ⟨z, hz⟩ : ∃ y, LBa[k2]? = some y := ⟨_, List.getElem?_eq_getElem (by rw [← HLa.out, ← HRAa.out.len.1, HNa.out]; exact hlt2)⟩
          have HPR := hide (HPa.out k2 y z hy hz)
          obtain ⟨ga2, hqa, _, _⟩ := HRAa.out.2.2 (show 0 < f.ar.n by rw [HNa.out]; omega)
          obtain ⟨gb2, hqb, _, _⟩ := HRBa.out.2.2 (show 0 < g.ar.n by rw [HRBa.out.len.1, ← HLa.out, ← HRAa.out.len.1, HNa.out]; omega)
          have HRa := hide (RW.row (L := LAa) (F := aL) (g := ga2) (n := f.ar.n) (c := f.ar.c) (by rw [← hqa]; exact HRAa.out.low HX2.out) hy)
          have HRb := hide (RW.row (L := LBa) (F := aL) (g := gb2) (n := g.ar.n) (c := g.ar.c) (by rw [← hqb]; exact HRBa.out.low HX2.out) hz)
          have a0 := HRa.out.1.at (aL_len LAa) HRa.out.2 (j := 0) (by decide) (v := .int .i64 y.1.k) rfl
          have a1 := HRa.out.1.at (aL_len LAa) HRa.out.2 (j := 1) (by decide) (v := .string y.1.x) rfl
          have a2 := HRa.out.1.at (aL_len LAa) HRa.out.2 (j := 2) (by decide) (v := .int .i64 y.1.n) rfl
          have a3 := HRa.out.1.at (aL_len LAa) HRa.out.2 (j := 3) (by decide) (v := .string y.1.m) rfl
          have a4 := HRa.out.1.at (aL_len LAa) HRa.out.2 (j := 4) (by decide) (v := .slice y.1.q y.1.ql y.1.qc) rfl
          have a5 := HRa.out.1.at (aL_len LAa) HRa.out.2 (j := 5) (by decide) (v := .int .i64 y.1.li) rfl
          have a6 := HRa.out.1.at (aL_len LAa) HRa.out.2 (j := 6) (by decide) (v := .int .i64 y.1.co) rfl
          have a7 := HRa.out.1.at (aL_len LAa) HRa.out.2 (j := 7) (by decide) (v := .slice y.2.q y.2.n y.2.c) rfl
          rw [Nat.add_zero] at a0
          have b0 := HRb.out.1.at (aL_len LBa) HRb.out.2 (j := 0) (by decide) (v := .int .i64 z.1.k) rfl
          have b1 := HRb.out.1.at (aL_len LBa) HRb.out.2 (j := 1) (by decide) (v := .string z.1.x) rfl
          have b2 := HRb.out.1.at (aL_len LBa) HRb.out.2 (j := 2) (by decide) (v := .int .i64 z.1.n) rfl
          have b3 := HRb.out.1.at (aL_len LBa) HRb.out.2 (j := 3) (by decide) (v := .string z.1.m) rfl
          have b4 := HRb.out.1.at (aL_len LBa) HRb.out.2 (j := 4) (by decide) (v := .slice z.1.q z.1.ql z.1.qc) rfl
          have b5 := HRb.out.1.at (aL_len LBa) HRb.out.2 (j := 5) (by decide) (v := .int .i64 z.1.li) rfl
          have b6 := HRb.out.1.at (aL_len LBa) HRb.out.2 (j := 6) (by decide) (v := .int .i64 z.1.co) rfl
          have b7 := HRb.out.1.at (aL_len LBa) HRb.out.2 (j := 7) (by decide) (v := .slice z.2.q z.2.n z.2.c) rfl
          rw [Nat.add_zero] at b0
          have ka := (HK8.out.keep HX2.out (fun z => z)).c3
          have kb := (HK9.out.keep HX2.out (fun z => z)).c3
          rw [hqa, HNa.out] at ka
          rw [hqb, ← HLR.out, HNa.out] at kb
          clear hy hz hqa hqb HRa HRb
          have HCX : Hid (∀ W, Ex (fun _ => False) wr W → Calls Try.prog 42 #[xV y.1, xV z.1, .bool false] W (RdB W true)) := fun W hW => HPR.out.x W (HX2.out.trans hW)
          have HCS : Hid (∀ W, Ex (fun _ => False) wr W → Calls Try.prog 41 #[slV y.2, slV z.2, .bool false] W (RdB W true)) := fun W hW => HPR.out.s W (HX2.out.trans hW)
          unfold xV at HCX
          unfold slV at HCS
          clear HPR
          go_upto_region 14 with fail
          refine wp_region_held_drew (S := fun w' => Ex (fun _ => False) wr w') (by kernel_rfl) ((Ex.refl _ _).drew) (fun hHeld => ?_)
          refine wpAnyH_take (i := 0) (v := ?_) rfl (by kernel_rfl) (by kernel_rfl) (by kernel_rfl) (fun _ _ _ h => h) (Or.inl ⟨by rfl, ?_⟩) (by assumption) ?_
          rotate_left
          · (intro w hSw; (try dsimp only at hSw); go_simp; try (with_reducible rfl))
          try simp only [Act.put, List.getElem_toArray, List.getElem_cons_zero, List.getElem_cons_succ, List.setIfInBounds_toArray, List.set_cons_zero, List.set_cons_succ]
          refine wpAnyH_take (i := 1) (v := ?_) rfl (by kernel_rfl) (by kernel_rfl) (by kernel_rfl) (fun _ _ _ h => h) (Or.inl ⟨by rfl, ?_⟩) (by assumption) ?_
          rotate_left
          · (intro w hSw; (try dsimp only at hSw); (have qs8 := hSw.cell (fun z => z) ka; have qs9 := hSw.cell (fun z => z) kb; have qa0 := hSw.cell (fun z => z) a0; have qa1 := hSw.cell (fun z => z) a1; have qa2 := hSw.cell (fun z => z) a2; have qa3 := hSw.cell (fun z => z) a3; have qa4 := hSw.cell (fun z => z) a4; have qa5 := hSw.cell (fun z => z) a5; have qa6 := hSw.cell (fun z => z) a6; have qa7 := hSw.cell (fun z => z) a7; have qb0 := hSw.cell (fun z => z) b0; have qb1 := hSw.cell (fun z => z) b1; have qb2 := hSw.cell (fun z => z) b2; have qb3 := hSw.cell (fun z => z) b3; have qb4 := hSw.cell (fun z => z) b4; have qb5 := hSw.cell (fun z => z) b5; have qb6 := hSw.cell (fun z => z) b6; have qb7 := hSw.cell (fun z => z) b7); go_simp; try (with_reducible rfl))
          try simp only [Act.put, List.getElem_toArray, List.getElem_cons_zero, List.getElem_cons_succ, List.setIfInBounds_toArray, List.set_cons_zero, List.set_cons_succ]
          refine wpAnyH_take (i := 2) (v := ?_) rfl (by kernel_rfl) (by kernel_rfl) (by kernel_rfl) (fun _ _ _ h => h) (Or.inl ⟨by rfl, ?_⟩) (by assumption) ?_
          rotate_left
          · (intro w hSw; (try dsimp only at hSw); go_simp; try (with_reducible rfl))
          try simp only [Act.put, List.getElem_toArray, List.getElem_cons_zero, List.getElem_cons_succ, List.setIfInBounds_toArray, List.set_cons_zero, List.set_cons_succ]
          refine wpAnyH_take (i := 3) (v := ?_) rfl (by kernel_rfl) (by kernel_rfl) (by kernel_rfl) (fun _ _ _ h => h) (Or.inl ⟨by rfl, ?_⟩) (by assumption) ?_
          rotate_left
          · (intro w hSw; (try dsimp only at hSw); go_simp; try (with_reducible rfl))
          try simp only [Act.put, List.getElem_toArray, List.getElem_cons_zero, List.getElem_cons_succ, List.setIfInBounds_toArray, List.set_cons_zero, List.set_cons_succ]
          refine wpAnyH_take (i := 4) (v := ?_) rfl (by kernel_rfl) (by kernel_rfl) (by kernel_rfl) (fun _ _ _ h => h) (Or.inl ⟨by rfl, ?_⟩) (by assumption) ?_
          rotate_left
          · (intro w hSw; (try dsimp only at hSw); go_simp; try (with_reducible rfl))
          try simp only [Act.put, List.getElem_toArray, List.getElem_cons_zero, List.getElem_cons_succ, List.setIfInBounds_toArray, List.set_cons_zero, List.set_cons_succ]
          refine wpAnyH_take (i := 5) (v := ?_) rfl (by kernel_rfl) (by kernel_rfl) (by kernel_rfl) (fun _ _ _ h => h) (Or.inl ⟨by rfl, ?_⟩) (by assumption) ?_
          rotate_left
          · (intro w hSw; (try dsimp only at hSw); (have qs8 := hSw.cell (fun z => z) ka; have qs9 := hSw.cell (fun z => z) kb; have qa0 := hSw.cell (fun z => z) a0; have qa1 := hSw.cell (fun z => z) a1; have qa2 := hSw.cell (fun z => z) a2; have qa3 := hSw.cell (fun z => z) a3; have qa4 := hSw.cell (fun z => z) a4; have qa5 := hSw.cell (fun z => z) a5; have qa6 := hSw.cell (fun z => z) a6; have qa7 := hSw.cell (fun z => z) a7; have qb0 := hSw.cell (fun z => z) b0; have qb1 := hSw.cell (fun z => z) b1; have qb2 := hSw.cell (fun z => z) b2; have qb3 := hSw.cell (fun z => z) b3; have qb4 := hSw.cell (fun z => z) b4; have qb5 := hSw.cell (fun z => z) b5; have qb6 := hSw.cell (fun z => z) b6; have qb7 := hSw.cell (fun z => z) b7); go_simp; try (with_reducible rfl))
          try simp only [Act.put, List.getElem_toArray, List.getElem_cons_zero, List.getElem_cons_succ, List.setIfInBounds_toArray, List.set_cons_zero, List.set_cons_succ]
          refine wpAnyH_take (i := 6) (v := ?_) rfl (by kernel_rfl) (by kernel_rfl) (by kernel_rfl) (fun _ _ _ h => h) (Or.inl ⟨by rfl, ?_⟩) (by assumption) ?_
          rotate_left
          · (intro w hSw; (try dsimp only at hSw); go_simp; try (with_reducible rfl))
          try simp only [Act.put, List.getElem_toArray, List.getElem_cons_zero, List.getElem_cons_succ, List.setIfInBounds_toArray, List.set_cons_zero, List.set_cons_succ]
          refine wpAnyH_take (i := 7) (v := ?_) rfl (by kernel_rfl) (by kernel_rfl) (by kernel_rfl) (fun _ _ _ h => h) (Or.inl ⟨by rfl, ?_⟩) (by assumption) ?_
          rotate_left
          · (intro w hSw; (try dsimp only at hSw); (have qs8 := hSw.cell (fun z => z) ka; have qs9 := hSw.cell (fun z => z) kb; have qa0 := hSw.cell (fun z => z) a0; have qa1 := hSw.cell (fun z => z) a1; have qa2 := hSw.cell (fun z => z) a2; have qa3 := hSw.cell (fun z => z) a3; have qa4 := hSw.cell (fun z => z) a4; have qa5 := hSw.cell (fun z => z) a5; have qa6 := hSw.cell (fun z => z) a6; have qa7 := hSw.cell (fun z => z) a7; have qb0 := hSw.cell (fun z => z) b0; have qb1 := hSw.cell (fun z => z) b1; have qb2 := hSw.cell (fun z => z) b2; have qb3 := hSw.cell (fun z => z) b3; have qb4 := hSw.cell (fun z => z) b4; have qb5 := hSw.cell (fun z => z) b5; have qb6 := hSw.cell (fun z => z) b6; have qb7 := hSw.cell (fun z => z) b7); go_simp; try (with_reducible rfl))
          try simp only [Act.put, List.getElem_toArray, List.getElem_cons_zero, List.getElem_cons_succ, List.setIfInBounds_toArray, List.set_cons_zero, List.set_cons_succ]
          refine wpAnyH_take (i := 8) (v := ?_) rfl (by kernel_rfl) (by kernel_rfl) (by kernel_rfl) (fun _ _ _ h => h) (Or.inl ⟨by rfl, ?_⟩) (by assumption) ?_
          rotate_left
          · (intro w hSw; (try dsimp only at hSw); go_simp; try (with_reducible rfl))
          try simp only [Act.put, List.getElem_toArray, List.getElem_cons_zero, List.getElem_cons_succ, List.setIfInBounds_toArray, List.set_cons_zero, List.set_cons_succ]
          refine wpAnyH_take (i := 9) (v := ?_) rfl (by kernel_rfl) (by kernel_rfl) (by kernel_rfl) (fun _ _ _ h => h) (Or.inl ⟨by rfl, ?_⟩) (by assumption) ?_
          rotate_left
          · (intro w hSw; (try dsimp only at hSw); go_simp; try (with_reducible rfl))
          try simp only [Act.put, List.getElem_toArray, List.getElem_cons_zero, List.getElem_cons_succ, List.setIfInBounds_toArray, List.set_cons_zero, List.set_cons_succ]
          refine wpAnyH_take (i := 10) (v := ?_) rfl (by kernel_rfl) (by kernel_rfl) (by kernel_rfl) (fun _ _ _ h => h) (Or.inl ⟨by rfl, ?_⟩) (by assumption) ?_
          rotate_left
          · (intro w hSw; (try dsimp only at hSw); go_simp; try (with_reducible rfl))
          try simp only [Act.put, List.getElem_toArray, List.getElem_cons_zero, List.getElem_cons_succ, List.setIfInBounds_toArray, List.set_cons_zero, List.set_cons_succ]
          refine wpAnyH_take (i := 11) (v := ?_) rfl (by kernel_rfl) (by kernel_rfl) (by kernel_rfl) (fun _ _ _ h => h) (Or.inl ⟨by rfl, ?_⟩) (by assumption) ?_
          rotate_left
          · (intro w hSw; (try dsimp only at hSw); (have qs8 := hSw.cell (fun z => z) ka; have qs9 := hSw.cell (fun z => z) kb; have qa0 := hSw.cell (fun z => z) a0; have qa1 := hSw.cell (fun z => z) a1; have qa2 := hSw.cell (fun z => z) a2; have qa3 := hSw.cell (fun z => z) a3; have qa4 := hSw.cell (fun z => z) a4; have qa5 := hSw.cell (fun z => z) a5; have qa6 := hSw.cell (fun z => z) a6; have qa7 := hSw.cell (fun z => z) a7; have qb0 := hSw.cell (fun z => z) b0; have qb1 := hSw.cell (fun z => z) b1; have qb2 := hSw.cell (fun z => z) b2; have qb3 := hSw.cell (fun z => z) b3; have qb4 := hSw.cell (fun z => z) b4; have qb5 := hSw.cell (fun z => z) b5; have qb6 := hSw.cell (fun z => z) b6; have qb7 := hSw.cell (fun z => z) b7); go_simp; try (with_reducible rfl))
          try simp only [Act.put, List.getElem_toArray, List.getElem_cons_zero, List.getElem_cons_succ, List.setIfInBounds_toArray, List.set_cons_zero, List.set_cons_succ]
          refine wpAnyH_take (i := 12) (v := ?_) rfl (by kernel_rfl) (by kernel_rfl) (by kernel_rfl) (fun _ _ _ h => h) (Or.inl ⟨by rfl, ?_⟩) (by assumption) ?_
          rotate_left
          · (intro w hSw; (try dsimp only at hSw); go_simp; try (with_reducible rfl))
          try simp only [Act.put, List.getElem_toArray, List.getElem_cons_zero, List.getElem_cons_succ, List.setIfInBounds_toArray, List.set_cons_zero, List.set_cons_succ]
          refine wpAnyH_ready (rs := [13]) (by kernel_rfl) (by simp) ?_
          refine (AllReadyH.cons rfl (fun K hK => ?_) AllReadyH.nil)
          · refine step_call rfl 42 _ (by simp [go_sem]) (HCX.out _ hHeld) ?_
            rintro e9 w4 ⟨rfl, hexs⟩
            have HX4 := hide (hHeld.trans hexs)
            have HXL := hide HX4.out
            clear hexs
            refine ⟨_, rfl, ?_⟩
            refine hK.out _ _ ?_ (fun hHeld => ?_)
            · first | exact HX5.out | exact HX4.out
            clear hK K
            try simp only [Act.put, List.getElem_toArray, List.getElem_cons_zero, List.getElem_cons_succ, List.setIfInBounds_toArray, List.set_cons_zero, List.set_cons_succ]
            refine wpAnyH_take (i := 14) (v := ?_) rfl (by kernel_rfl) (by kernel_rfl) (by kernel_rfl) (fun _ _ _ h => h) (Or.inl ⟨by rfl, ?_⟩) (by assumption) ?_
            rotate_left
            · (intro w hSw; (try dsimp only at hSw); go_simp; try (with_reducible rfl))
            try simp only [Act.put, List.getElem_toArray, List.getElem_cons_zero, List.getElem_cons_succ, List.setIfInBounds_toArray, List.set_cons_zero, List.set_cons_succ]
            refine wpAnyH_take (i := 15) (v := ?_) rfl (by kernel_rfl) (by kernel_rfl) (by kernel_rfl) (fun _ _ _ h => h) (Or.inl ⟨by rfl, ?_⟩) (by assumption) ?_
            rotate_left
            · (intro w hSw; (try dsimp only at hSw); go_simp; try (with_reducible rfl))
            try simp only [Act.put, List.getElem_toArray, List.getElem_cons_zero, List.getElem_cons_succ, List.setIfInBounds_toArray, List.set_cons_zero, List.set_cons_succ]
            refine wpAnyH_take (i := 16) (v := ?_) rfl (by kernel_rfl) (by kernel_rfl) (by kernel_rfl) (fun _ _ _ h => h) (Or.inl ⟨by rfl, ?_⟩) (by assumption) ?_
            rotate_left
            · (intro w hSw; (try dsimp only at hSw); go_simp; try (with_reducible rfl))
            try simp only [Act.put, List.getElem_toArray, List.getElem_cons_zero, List.getElem_cons_succ, List.setIfInBounds_toArray, List.set_cons_zero, List.set_cons_succ]
            refine wpAnyH_take (i := 17) (v := ?_) rfl (by kernel_rfl) (by kernel_rfl) (by kernel_rfl) (fun _ _ _ h => h) (Or.inl ⟨by rfl, ?_⟩) (by assumption) ?_
            rotate_left
            · (intro w hSw; (try dsimp only at hSw); (have qs8 := hSw.cell (fun z => z) ka; have qs9 := hSw.cell (fun z => z) kb; have qa0 := hSw.cell (fun z => z) a0; have qa1 := hSw.cell (fun z => z) a1; have qa2 := hSw.cell (fun z => z) a2; have qa3 := hSw.cell (fun z => z) a3; have qa4 := hSw.cell (fun z => z) a4; have qa5 := hSw.cell (fun z => z) a5; have qa6 := hSw.cell (fun z => z) a6; have qa7 := hSw.cell (fun z => z) a7; have qb0 := hSw.cell (fun z => z) b0; have qb1 := hSw.cell (fun z => z) b1; have qb2 := hSw.cell (fun z => z) b2; have qb3 := hSw.cell (fun z => z) b3; have qb4 := hSw.cell (fun z => z) b4; have qb5 := hSw.cell (fun z => z) b5; have qb6 := hSw.cell (fun z => z) b6; have qb7 := hSw.cell (fun z => z) b7); go_simp; try (with_reducible rfl))
            try simp only [Act.put, List.getElem_toArray, List.getElem_cons_zero, List.getElem_cons_succ, List.setIfInBounds_toArray, List.set_cons_zero, List.set_cons_succ]
            refine wpAnyH_take (i := 18) (v := ?_) rfl (by kernel_rfl) (by kernel_rfl) (by kernel_rfl) (fun _ _ _ h => h) (Or.inl ⟨by rfl, ?_⟩) (by assumption) ?_
            rotate_left
            · (intro w hSw; (try dsimp only at hSw); go_simp; try (with_reducible rfl))
            try simp only [Act.put, List.getElem_toArray, List.getElem_cons_zero, List.getElem_cons_succ, List.setIfInBounds_toArray, List.set_cons_zero, List.set_cons_succ]
            refine wpAnyH_take (i := 19) (v := ?_) rfl (by kernel_rfl) (by kernel_rfl) (by kernel_rfl) (fun _ _ _ h => h) (Or.inl ⟨by rfl, ?_⟩) (by assumption) ?_
            rotate_left
            · (intro w hSw; (try dsimp only at hSw); go_simp; try (with_reducible rfl))
            try simp only [Act.put, List.getElem_toArray, List.getElem_cons_zero, List.getElem_cons_succ, List.setIfInBounds_toArray, List.set_cons_zero, List.set_cons_succ]
            refine wpAnyH_take (i := 20) (v := ?_) rfl (by kernel_rfl) (by kernel_rfl) (by kernel_rfl) (fun _ _ _ h => h) (Or.inl ⟨by rfl, ?_⟩) (by assumption) ?_
            rotate_left
            · (intro w hSw; (try dsimp only at hSw); go_simp; try (with_reducible rfl))
            try simp only [Act.put, List.getElem_toArray, List.getElem_cons_zero, List.getElem_cons_succ, List.setIfInBounds_toArray, List.set_cons_zero, List.set_cons_succ]
            refine wpAnyH_take (i := 21) (v := ?_) rfl (by kernel_rfl) (by kernel_rfl) (by kernel_rfl) (fun _ _ _ h => h) (Or.inl ⟨by rfl, ?_⟩) (by assumption) ?_
            rotate_left
            · (intro w hSw; (try dsimp only at hSw); (have qs8 := hSw.cell (fun z => z) ka; have qs9 := hSw.cell (fun z => z) kb; have qa0 := hSw.cell (fun z => z) a0; have qa1 := hSw.cell (fun z => z) a1; have qa2 := hSw.cell (fun z => z) a2; have qa3 := hSw.cell (fun z => z) a3; have qa4 := hSw.cell (fun z => z) a4; have qa5 := hSw.cell (fun z => z) a5; have qa6 := hSw.cell (fun z => z) a6; have qa7 := hSw.cell (fun z => z) a7; have qb0 := hSw.cell (fun z => z) b0; have qb1 := hSw.cell (fun z => z) b1; have qb2 := hSw.cell (fun z => z) b2; have qb3 := hSw.cell (fun z => z) b3; have qb4 := hSw.cell (fun z => z) b4; have qb5 := hSw.cell (fun z => z) b5; have qb6 := hSw.cell (fun z => z) b6; have qb7 := hSw.cell (fun z => z) b7); go_simp; try (with_reducible rfl))
            try simp only [Act.put, List.getElem_toArray, List.getElem_cons_zero, List.getElem_cons_succ, List.setIfInBounds_toArray, List.set_cons_zero, List.set_cons_succ]
            refine wpAnyH_take (i := 22) (v := ?_) rfl (by kernel_rfl) (by kernel_rfl) (by kernel_rfl) (fun _ _ _ h => h) (Or.inl ⟨by rfl, ?_⟩) (by assumption) ?_
            rotate_left
            · (intro w hSw; (try dsimp only at hSw); go_simp; try (with_reducible rfl))
            try simp only [Act.put, List.getElem_toArray, List.getElem_cons_zero, List.getElem_cons_succ, List.setIfInBounds_toArray, List.set_cons_zero, List.set_cons_succ]
            refine wpAnyH_take (i := 23) (v := ?_) rfl (by kernel_rfl) (by kernel_rfl) (by kernel_rfl) (fun _ _ _ h => h) (Or.inl ⟨by rfl, ?_⟩) (by assumption) ?_
            rotate_left
            · (intro w hSw; (try dsimp only at hSw); (have qs8 := hSw.cell (fun z => z) ka; have qs9 := hSw.cell (fun z => z) kb; have qa0 := hSw.cell (fun z => z) a0; have qa1 := hSw.cell (fun z => z) a1; have qa2 := hSw.cell (fun z => z) a2; have qa3 := hSw.cell (fun z => z) a3; have qa4 := hSw.cell (fun z => z) a4; have qa5 := hSw.cell (fun z => z) a5; have qa6 := hSw.cell (fun z => z) a6; have qa7 := hSw.cell (fun z => z) a7; have qb0 := hSw.cell (fun z => z) b0; have qb1 := hSw.cell (fun z => z) b1; have qb2 := hSw.cell (fun z => z) b2; have qb3 := hSw.cell (fun z => z) b3; have qb4 := hSw.cell (fun z => z) b4; have qb5 := hSw.cell (fun z => z) b5; have qb6 := hSw.cell (fun z => z) b6; have qb7 := hSw.cell (fun z => z) b7); go_simp; try (with_reducible rfl))
            try simp only [Act.put, List.getElem_toArray, List.getElem_cons_zero, List.getElem_cons_succ, List.setIfInBounds_toArray, List.set_cons_zero, List.set_cons_succ]
            refine wpAnyH_take (i := 24) (v := ?_) rfl (by kernel_rfl) (by kernel_rfl) (by kernel_rfl) (fun _ _ _ h => h) (Or.inl ⟨by rfl, ?_⟩) (by assumption) ?_
            rotate_left
            · (intro w hSw; (try dsimp only at hSw); go_simp; try (with_reducible rfl))
            try simp only [Act.put, List.getElem_toArray, List.getElem_cons_zero, List.getElem_cons_succ, List.setIfInBounds_toArray, List.set_cons_zero, List.set_cons_succ]
            refine wpAnyH_take (i := 25) (v := ?_) rfl (by kernel_rfl) (by kernel_rfl) (by kernel_rfl) (fun _ _ _ h => h) (Or.inl ⟨by rfl, ?_⟩) (by assumption) ?_
            rotate_left
            · (intro w hSw; (try dsimp only at hSw); go_simp; try (with_reducible rfl))
            try simp only [Act.put, List.getElem_toArray, List.getElem_cons_zero, List.getElem_cons_succ, List.setIfInBounds_toArray, List.set_cons_zero, List.set_cons_succ]
            refine wpAnyH_take (i := 26) (v := ?_) rfl (by kernel_rfl) (by kernel_rfl) (by kernel_rfl) (fun _ _ _ h => h) (Or.inl ⟨by rfl, ?_⟩) (by assumption) ?_
            rotate_left
            · (intro w hSw; (try dsimp only at hSw); go_simp; try (with_reducible rfl))
            try simp only [Act.put, List.getElem_toArray, List.getElem_cons_zero, List.getElem_cons_succ, List.setIfInBounds_toArray, List.set_cons_zero, List.set_cons_succ]
            refine wpAnyH_take (i := 27) (v := ?_) rfl (by kernel_rfl) (by kernel_rfl) (by kernel_rfl) (fun _ _ _ h => h) (Or.inl ⟨by rfl, ?_⟩) (by assumption) ?_
            rotate_left
            · (intro w hSw; (try dsimp only at hSw); (have qs8 := hSw.cell (fun z => z) ka; have qs9 := hSw.cell (fun z => z) kb; have qa0 := hSw.cell (fun z => z) a0; have qa1 := hSw.cell (fun z => z) a1; have qa2 := hSw.cell (fun z => z) a2; have qa3 := hSw.cell (fun z => z) a3; have qa4 := hSw.cell (fun z => z) a4; have qa5 := hSw.cell (fun z => z) a5; have qa6 := hSw.cell (fun z => z) a6; have qa7 := hSw.cell (fun z => z) a7; have qb0 := hSw.cell (fun z => z) b0; have qb1 := hSw.cell (fun z => z) b1; have qb2 := hSw.cell (fun z => z) b2; have qb3 := hSw.cell (fun z => z) b3; have qb4 := hSw.cell (fun z => z) b4; have qb5 := hSw.cell (fun z => z) b5; have qb6 := hSw.cell (fun z => z) b6; have qb7 := hSw.cell (fun z => z) b7); go_simp; try (with_reducible rfl))
            try simp only [Act.put, List.getElem_toArray, List.getElem_cons_zero, List.getElem_cons_succ, List.setIfInBounds_toArray, List.set_cons_zero, List.set_cons_succ]
            refine wpAnyH_take (i := 28) (v := ?_) rfl (by kernel_rfl) (by kernel_rfl) (by kernel_rfl) (fun _ _ _ h => h) (Or.inl ⟨by rfl, ?_⟩) (by assumption) ?_
            rotate_left
            · (intro w hSw; (try dsimp only at hSw); go_simp; try (with_reducible rfl))
            try simp only [Act.put, List.getElem_toArray, List.getElem_cons_zero, List.getElem_cons_succ, List.setIfInBounds_toArray, List.set_cons_zero, List.set_cons_succ]
            refine wpAnyH_ready (rs := [29]) (by kernel_rfl) (by simp) ?_
            refine (AllReadyH.cons rfl (fun K hK => ?_) AllReadyH.nil)
            · refine step_call_g (by rfl) 41 _ (by simp [go_sem]) (HCS.out _ hHeld) ?_
              rintro e9 w5 ⟨rfl, hexs⟩
              have HX5 := hide (hHeld.trans hexs)
              have HXL := hide HX5.out
              clear hexs
              refine ⟨_, rfl, ?_⟩
              refine hK.out _ _ ?_ (fun hHeld => ?_)
              · first | exact HX5.out | exact HX4.out
              clear hK K
              try simp only [Act.put, List.getElem_toArray, List.getElem_cons_zero, List.getElem_cons_succ, List.setIfInBounds_toArray, List.set_cons_zero, List.set_cons_succ]
              refine wpAnyH_take (i := 30) (v := ?_) rfl (by kernel_rfl) (by kernel_rfl) (by kernel_rfl) (fun _ _ _ h => h) (Or.inl ⟨by rfl, ?_⟩) (by assumption) ?_
              rotate_left
              · (intro w hSw; (try dsimp only at hSw); go_simp; try (with_reducible rfl))
              try simp only [Act.put, List.getElem_toArray, List.getElem_cons_zero, List.getElem_cons_succ, List.setIfInBounds_toArray, List.set_cons_zero, List.set_cons_succ]
              refine wpAnyH_take (i := 31) (v := ?_) rfl (by kernel_rfl) (by kernel_rfl) (by kernel_rfl) (fun _ _ _ h => h) (Or.inl ⟨by rfl, ?_⟩) (by assumption) ?_
              rotate_left
              · (intro w hSw; (try dsimp only at hSw); go_simp; try (with_reducible rfl))
              try simp only [Act.put, List.getElem_toArray, List.getElem_cons_zero, List.getElem_cons_succ, List.setIfInBounds_toArray, List.set_cons_zero, List.set_cons_succ]
              refine wpAnyH_done (by kernel_rfl) ?_ _
              clear hHeld
              go_wp2
              first | refine HJ2.out _ _ ?rel (by kernel_rfl) rfl ?measure | refine HJ1.out _ _ ?rel (by kernel_rfl) rfl ?measure
              case rel => (try dsimp only [rdA, getL]); (exact ⟨k2 + 1, by omega, by go_num, HX2.out.trans HXL.out⟩)
              case measure => (try dsimp only [rdA, getL]); (simp [intOf]; omega)
        · obtain rfl : k2 = na := by omega
          have e1 : decide ((k2 : Int) < (k2 : Int)) = false := decide_eq_false (by omega)
          have HX := hide (HX.out.trans HX2.out)
          have HK8 := hide (HK8.out.keep HX2.out (fun z => z))
          have HK9 := hide (HK9.out.keep HX2.out (fun z => z))
          have HSX := hide (HSM.out.low HX2.out)
          clear HSM
          have HSM := HSX
          clear HSX HX2 hlt2 hk2 e1 HPa HRAa HRBa HLa
          have e1 : decide ((k2 : Int) < (k2 : Int)) = false := decide_eq_false (by omega)
          generalize hwv : wr = w7 at *
          clear hwv
          have ka0 := HK8.out.c0
          have kb0 := HK9.out.c0
          have ka1 := HK8.out.c1
          have kb1 := HK9.out.c1
          have ka2 := HK8.out.c2
          have kb2 := HK9.out.c2
          have ka3 := HK8.out.c3
          have kb3 := HK9.out.c3
          have ka4 := HK8.out.c4
          have kb4 := HK9.out.c4
          have ka5 := HK8.out.c5
          have kb5 := HK9.out.c5
          have ka6 := HK8.out.c6
          have kb6 := HK9.out.c6
          have ka7 := HK8.out.c7
          have kb7 := HK9.out.c7
          rw [← HEK.out] at kb0
          rw [← HEQX.out] at kb1
          rw [← HLR.out] at kb3
          rw [← HLG.out] at kb6
          rw [← HLC.out] at kb7
          go_upto_region 17 with fail
          obtain ⟨LAg, LBg, hra, hrb, hlr, hpr⟩ := HSM.out.ag
          have HRAg := hide hra
          have HRBg := hide hrb
          have HPg := hide hpr
          have HLg := hide hlr
          clear hra hrb hlr hpr
          obtain ⟨ng, hng⟩ : ∃ n, f.ag.n = n := ⟨_, rfl⟩
          have HNg := hide hng
          rw [hng] at ka6 kb6
          clear hng
          go_upto_region 18 with fail
          clear ka0 kb0 ka1 kb1 ka2 kb2 ka3 kb3 ka4 kb4 ka5 kb5 ka6 kb6 ka7 kb7
          refine wp_loop_mix [none, none, none, none, none, none, some 6, none, none, none, none, some 11, none, none, none, none, none, none, none, none, none, none, none, none, none, none, none, none, none, none, none, none, none, none, none, none, none, none, none, none, none, none, none, none, none, none, none, none, none, none, none, none, none, none, none, none, none, none, none, none, none, none, none, none, none, none, none, none, none, none, none, none, none, none, none, none, none, none, none, none, none, none, none, none, none, none, none, none, none, none, none, none, none, none, none, none, none, none, none, none, none, none, none, none, none, none, none, none, none, none, none, none, none, none, none, none, none, none, none, none, none, none, none, none, none, none, none, none, none, none, none, none, none, none, none, none, none, none, none, none, none, none, none, none, none, none, none, none, none, none, none, none, none, none, some 154, some 155, some 156, some 157, some 158, some 159, some 160, some 161, some 162, some 163, some 164, some 165, some 166, some 167, some 168, some 169, some 170, some 171, some 172, some 173, some 174, some 175, some 176, some 177, some 178, some 179, some 180, some 181, some 182, some 183, some 184, some 185, some 186, some 187, none, none, none, none, none, none, none, none, none, none, none, none, none, none, none, none, none, none, none, none, none, none, none, none, none, none, none, none, none, none, none, none, none, none, none, none, none, none] (by kernel_rfl) (fun us wy => (fun s154 wr => ∃ (k2 : Nat), k2 ≤ ng ∧ s154 = .int .i64 k2 ∧ Ex (fun _ => False) w7 wr) (us 154) wy) (fun us wy => (fun s154 _ => ng - (intOf s154).toNat) (us 154) wy) ?atStart ?round
          case atStart => (dsimp only [getL]; exact ⟨0, Nat.zero_le _, rfl, Ex.refl _ _⟩)
          case round =>
            intro us wr hrel J3 hJ3
            dsimp only at hrel hJ3
            dsimp only [mixF]
            generalize us 154 = s154 at hrel hJ3 ⊢
            have HJ3 := hide hJ3
            clear hJ3
            obtain ⟨k2, hk2, rfl, hex⟩ := hrel
            have HX2 := hide hex
            clear hex
            by_cases hlt2 : k2 < ng
            · have e1 : decide ((k2 : Int) < (ng : Int)) = true := decide_eq_true (by omega)
              have e1n : decide (k2 < ng) = true := decide_eq_true hlt2
              have hwk2 : IntKind.i64.wrap ((k2 : Int) + 1) = ((k2 + 1 : Nat) : Int) := wrk (by have := HRAg.out.len.2; rw [HNg.out] at this; unfold maxLen at this; omega)
              obtain ⟨y, hy⟩ : ∃ y, LAg[k2]? = some y := ⟨_, List.getElem?_eq_getElem (by rw [← HRAg.out.len.1, HNg.out]; exact hlt2)⟩
              obtain ⟨z, hz⟩ : ∃ y, LBg[k2]? = some y := ⟨_, List.getElem?_eq_getElem (by rw [← HLg.out, ← HRAg.out.len.1, HNg.out]; exact hlt2)⟩
              have HPR := hide (HPg.out k2 y z hy hz)
              obtain ⟨ga2, hqa, _, _⟩ := HRAg.out.2.2 (show 0 < f.ag.n by rw [HNg.out]; omega)
              obtain ⟨gb2, hqb, _, _⟩ := HRBg.out.2.2 (show 0 < g.ag.n by rw [HRBg.out.len.1, ← HLg.out, ← HRAg.out.len.1, HNg.out]; omega)
              have HRa := hide (RW.row (L := LAg) (F := gL) (g := ga2) (n := f.ag.n) (c := f.ag.c) (by rw [← hqa]; exact HRAg.out.low HX2.out) hy)
              have HRb := hide (RW.row (L := LBg) (F := gL) (g := gb2) (n := g.ag.n) (c := g.ag.c) (by rw [← hqb]; exact HRBg.out.low HX2.out) hz)
              have a0 := HRa.out.1.at (gL_len LAg) HRa.out.2 (j := 0) (by decide) (v := .string y.1) rfl
              have a1 := HRa.out.1.at (gL_len LAg) HRa.out.2 (j := 1) (by decide) (v := .int .i64 y.2.k) rfl
              have a2 := HRa.out.1.at (gL_len LAg) HRa.out.2 (j := 2) (by decide) (v := .string y.2.x) rfl
              have a3 := HRa.out.1.at (gL_len LAg) HRa.out.2 (j := 3) (by decide) (v := .int .i64 y.2.n) rfl
              have a4 := HRa.out.1.at (gL_len LAg) HRa.out.2 (j := 4) (by decide) (v := .string y.2.m) rfl
              have a5 := HRa.out.1.at (gL_len LAg) HRa.out.2 (j := 5) (by decide) (v := .slice y.2.q y.2.ql y.2.qc) rfl
              have a6 := HRa.out.1.at (gL_len LAg) HRa.out.2 (j := 6) (by decide) (v := .int .i64 y.2.li) rfl
              have a7 := HRa.out.1.at (gL_len LAg) HRa.out.2 (j := 7) (by decide) (v := .int .i64 y.2.co) rfl
              rw [Nat.add_zero] at a0
              have b0 := HRb.out.1.at (gL_len LBg) HRb.out.2 (j := 0) (by decide) (v := .string z.1) rfl
              have b1 := HRb.out.1.at (gL_len LBg) HRb.out.2 (j := 1) (by decide) (v := .int .i64 z.2.k) rfl
              have b2 := HRb.out.1.at (gL_len LBg) HRb.out.2 (j := 2) (by decide) (v := .string z.2.x) rfl
              have b3 := HRb.out.1.at (gL_len LBg) HRb.out.2 (j := 3) (by decide) (v := .int .i64 z.2.n) rfl
              have b4 := HRb.out.1.at (gL_len LBg) HRb.out.2 (j := 4) (by decide) (v := .string z.2.m) rfl
              have b5 := HRb.out.1.at (gL_len LBg) HRb.out.2 (j := 5) (by decide) (v := .slice z.2.q z.2.ql z.2.qc) rfl
              have b6 := HRb.out.1.at (gL_len LBg) HRb.out.2 (j := 6) (by decide) (v := .int .i64 z.2.li) rfl
              have b7 := HRb.out.1.at (gL_len LBg) HRb.out.2 (j := 7) (by decide) (v := .int .i64 z.2.co) rfl
              rw [Nat.add_zero] at b0
              have ka := (HK8.out.keep HX2.out (fun z => z)).c6
              have kb := (HK9.out.keep HX2.out (fun z => z)).c6
              rw [hqa, HNg.out] at ka
              rw [hqb, ← HLG.out, HNg.out] at kb
              clear hy hz hqa hqb HRa HRb
              have HCX : Hid (∀ W, Ex (fun _ => False) wr W → Calls Try.prog 42 #[xV y.2, xV z.2, .bool false] W (RdB W true)) := fun W hW => HPR.out.x W (HX2.out.trans hW)
              unfold xV at HCX
              have HYZ : Hid (y.1 = z.1) := ba_eq (by have := HPR.out.n; simpa using this)
              rw [← HYZ.out] at b0
              clear HPR
              go_upto_region 20 with fail
              refine wp_region_held_drew (S := fun w' => Ex (fun _ => False) wr w') (by kernel_rfl) ((Ex.refl _ _).drew) (fun hHeld => ?_)
              refine wpAnyH_take (i := 0) (v := ?_) rfl (by kernel_rfl) (by kernel_rfl) (by kernel_rfl) (fun _ _ _ h => h) (Or.inl ⟨by rfl, ?_⟩) (by assumption) ?_
              rotate_left
              · (intro w hSw; (try dsimp only at hSw); go_simp; try (with_reducible rfl))
              try simp only [Act.put, List.getElem_toArray, List.getElem_cons_zero, List.getElem_cons_succ, List.setIfInBounds_toArray, List.set_cons_zero, List.set_cons_succ]
              refine wpAnyH_take (i := 1) (v := ?_) rfl (by kernel_rfl) (by kernel_rfl) (by kernel_rfl) (fun _ _ _ h => h) (Or.inl ⟨by rfl, ?_⟩) (by assumption) ?_
              rotate_left
              · (intro w hSw; (try dsimp only at hSw); (have qs8 := hSw.cell (fun z => z) ka; have qs9 := hSw.cell (fun z => z) kb; have qa0 := hSw.cell (fun z => z) a0; have qa1 := hSw.cell (fun z => z) a1; have qa2 := hSw.cell (fun z => z) a2; have qa3 := hSw.cell (fun z => z) a3; have qa4 := hSw.cell (fun z => z) a4; have qa5 := hSw.cell (fun z => z) a5; have qa6 := hSw.cell (fun z => z) a6; have qa7 := hSw.cell (fun z => z) a7; have qb0 := hSw.cell (fun z => z) b0; have qb1 := hSw.cell (fun z => z) b1; have qb2 := hSw.cell (fun z => z) b2; have qb3 := hSw.cell (fun z => z) b3; have qb4 := hSw.cell (fun z => z) b4; have qb5 := hSw.cell (fun z => z) b5; have qb6 := hSw.cell (fun z => z) b6; have qb7 := hSw.cell (fun z => z) b7); go_simp; try (with_reducible rfl))
              try simp only [Act.put, List.getElem_toArray, List.getElem_cons_zero, List.getElem_cons_succ, List.setIfInBounds_toArray, List.set_cons_zero, List.set_cons_succ]
              refine wpAnyH_take (i := 2) (v := ?_) rfl (by kernel_rfl) (by kernel_rfl) (by kernel_rfl) (fun _ _ _ h => h) (Or.inl ⟨by rfl, ?_⟩) (by assumption) ?_
              rotate_left
              · (intro w hSw; (try dsimp only at hSw); go_simp; try (with_reducible rfl))
              try simp only [Act.put, List.getElem_toArray, List.getElem_cons_zero, List.getElem_cons_succ, List.setIfInBounds_toArray, List.set_cons_zero, List.set_cons_succ]
              refine wpAnyH_take (i := 3) (v := ?_) rfl (by kernel_rfl) (by kernel_rfl) (by kernel_rfl) (fun _ _ _ h => h) (Or.inl ⟨by rfl, ?_⟩) (by assumption) ?_
              rotate_left
              · (intro w hSw; (try dsimp only at hSw); go_simp; try (with_reducible rfl))
              try simp only [Act.put, List.getElem_toArray, List.getElem_cons_zero, List.getElem_cons_succ, List.setIfInBounds_toArray, List.set_cons_zero, List.set_cons_succ]
              refine wpAnyH_take (i := 4) (v := ?_) rfl (by kernel_rfl) (by kernel_rfl) (by kernel_rfl) (fun _ _ _ h => h) (Or.inl ⟨by rfl, ?_⟩) (by assumption) ?_
              rotate_left
              · (intro w hSw; (try dsimp only at hSw); go_simp; try (with_reducible rfl))
              try simp only [Act.put, List.getElem_toArray, List.getElem_cons_zero, List.getElem_cons_succ, List.setIfInBounds_toArray, List.set_cons_zero, List.set_cons_succ]
              refine wpAnyH_take (i := 5) (v := ?_) rfl (by kernel_rfl) (by kernel_rfl) (by kernel_rfl) (fun _ _ _ h => h) (Or.inl ⟨by rfl, ?_⟩) (by assumption) ?_
              rotate_left
              · (intro w hSw; (try dsimp only at hSw); (have qs8 := hSw.cell (fun z => z) ka; have qs9 := hSw.cell (fun z => z) kb; have qa0 := hSw.cell (fun z => z) a0; have qa1 := hSw.cell (fun z => z) a1; have qa2 := hSw.cell (fun z => z) a2; have qa3 := hSw.cell (fun z => z) a3; have qa4 := hSw.cell (fun z => z) a4; have qa5 := hSw.cell (fun z => z) a5; have qa6 := hSw.cell (fun z => z) a6; have qa7 := hSw.cell (fun z => z) a7; have qb0 := hSw.cell (fun z => z) b0; have qb1 := hSw.cell (fun z => z) b1; have qb2 := hSw.cell (fun z => z) b2; have qb3 := hSw.cell (fun z => z) b3; have qb4 := hSw.cell (fun z => z) b4; have qb5 := hSw.cell (fun z => z) b5; have qb6 := hSw.cell (fun z => z) b6; have qb7 := hSw.cell (fun z => z) b7); go_simp; try (with_reducible rfl))
              try simp only [Act.put, List.getElem_toArray, List.getElem_cons_zero, List.getElem_cons_succ, List.setIfInBounds_toArray, List.set_cons_zero, List.set_cons_succ]
              refine wpAnyH_take (i := 6) (v := ?_) rfl (by kernel_rfl) (by kernel_rfl) (by kernel_rfl) (fun _ _ _ h => h) (Or.inl ⟨by rfl, ?_⟩) (by assumption) ?_
              rotate_left
              · (intro w hSw; (try dsimp only at hSw); go_simp; try (with_reducible rfl))
              try simp only [Act.put, List.getElem_toArray, List.getElem_cons_zero, List.getElem_cons_succ, List.setIfInBounds_toArray, List.set_cons_zero, List.set_cons_succ]
              refine wpAnyH_take (i := 7) (v := ?_) rfl (by kernel_rfl) (by kernel_rfl) (by kernel_rfl) (fun _ _ _ h => h) (Or.inl ⟨by rfl, ?_⟩) (by assumption) ?_
              rotate_left
              · (intro w hSw; (try dsimp only at hSw); (have qs8 := hSw.cell (fun z => z) ka; have qs9 := hSw.cell (fun z => z) kb; have qa0 := hSw.cell (fun z => z) a0; have qa1 := hSw.cell (fun z => z) a1; have qa2 := hSw.cell (fun z => z) a2; have qa3 := hSw.cell (fun z => z) a3; have qa4 := hSw.cell (fun z => z) a4; have qa5 := hSw.cell (fun z => z) a5; have qa6 := hSw.cell (fun z => z) a6; have qa7 := hSw.cell (fun z => z) a7; have qb0 := hSw.cell (fun z => z) b0; have qb1 := hSw.cell (fun z => z) b1; have qb2 := hSw.cell (fun z => z) b2; have qb3 := hSw.cell (fun z => z) b3; have qb4 := hSw.cell (fun z => z) b4; have qb5 := hSw.cell (fun z => z) b5; have qb6 := hSw.cell (fun z => z) b6; have qb7 := hSw.cell (fun z => z) b7); go_simp; try (with_reducible rfl))
              try simp only [Act.put, List.getElem_toArray, List.getElem_cons_zero, List.getElem_cons_succ, List.setIfInBounds_toArray, List.set_cons_zero, List.set_cons_succ]
              refine wpAnyH_take (i := 8) (v := ?_) rfl (by kernel_rfl) (by kernel_rfl) (by kernel_rfl) (fun _ _ _ h => h) (Or.inl ⟨by rfl, ?_⟩) (by assumption) ?_
              rotate_left
              · (intro w hSw; (try dsimp only at hSw); go_simp; try (with_reducible rfl))
              try simp only [Act.put, List.getElem_toArray, List.getElem_cons_zero, List.getElem_cons_succ, List.setIfInBounds_toArray, List.set_cons_zero, List.set_cons_succ]
              refine wpAnyH_take (i := 9) (v := ?_) rfl (by kernel_rfl) (by kernel_rfl) (by kernel_rfl) (fun _ _ _ h => h) (Or.inl ⟨by rfl, ?_⟩) (by assumption) ?_
              rotate_left
              · (intro w hSw; (try dsimp only at hSw); go_simp; try (with_reducible rfl))
              try simp only [Act.put, List.getElem_toArray, List.getElem_cons_zero, List.getElem_cons_succ, List.setIfInBounds_toArray, List.set_cons_zero, List.set_cons_succ]
              refine wpAnyH_take (i := 10) (v := ?_) rfl (by kernel_rfl) (by kernel_rfl) (by kernel_rfl) (fun _ _ _ h => h) (Or.inl ⟨by rfl, ?_⟩) (by assumption) ?_
              rotate_left
              · (intro w hSw; (try dsimp only at hSw); go_simp; try (with_reducible rfl))
              try simp only [Act.put, List.getElem_toArray, List.getElem_cons_zero, List.getElem_cons_succ, List.setIfInBounds_toArray, List.set_cons_zero, List.set_cons_succ]
              refine wpAnyH_take (i := 11) (v := ?_) rfl (by kernel_rfl) (by kernel_rfl) (by kernel_rfl) (fun _ _ _ h => h) (Or.inl ⟨by rfl, ?_⟩) (by assumption) ?_
              rotate_left
              · (intro w hSw; (try dsimp only at hSw); (have qs8 := hSw.cell (fun z => z) ka; have qs9 := hSw.cell (fun z => z) kb; have qa0 := hSw.cell (fun z => z) a0; have qa1 := hSw.cell (fun z => z) a1; have qa2 := hSw.cell (fun z => z) a2; have qa3 := hSw.cell (fun z => z) a3; have qa4 := hSw.cell (fun z => z) a4; have qa5 := hSw.cell (fun z => z) a5; have qa6 := hSw.cell (fun z => z) a6; have qa7 := hSw.cell (fun z => z) a7; have qb0 := hSw.cell (fun z => z) b0; have qb1 := hSw.cell (fun z => z) b1; have qb2 := hSw.cell (fun z => z) b2; have qb3 := hSw.cell (fun z => z) b3; have qb4 := hSw.cell (fun z => z) b4; have qb5 := hSw.cell (fun z => z) b5; have qb6 := hSw.cell (fun z => z) b6; have qb7 := hSw.cell (fun z => z) b7); go_simp; try (with_reducible rfl))
              try simp only [Act.put, List.getElem_toArray, List.getElem_cons_zero, List.getElem_cons_succ, List.setIfInBounds_toArray, List.set_cons_zero, List.set_cons_succ]
              refine wpAnyH_take (i := 12) (v := ?_) rfl (by kernel_rfl) (by kernel_rfl) (by kernel_rfl) (fun _ _ _ h => h) (Or.inl ⟨by rfl, ?_⟩) (by assumption) ?_
              rotate_left
              · (intro w hSw; (try dsimp only at hSw); go_simp; try (with_reducible rfl))
              try simp only [Act.put, List.getElem_toArray, List.getElem_cons_zero, List.getElem_cons_succ, List.setIfInBounds_toArray, List.set_cons_zero, List.set_cons_succ]
              refine wpAnyH_take (i := 13) (v := ?_) rfl (by kernel_rfl) (by kernel_rfl) (by kernel_rfl) (fun _ _ _ h => h) (Or.inl ⟨by rfl, ?_⟩) (by assumption) ?_
              rotate_left
              · (intro w hSw; (try dsimp only at hSw); go_simp; try (with_reducible rfl))
              try simp only [Act.put, List.getElem_toArray, List.getElem_cons_zero, List.getElem_cons_succ, List.setIfInBounds_toArray, List.set_cons_zero, List.set_cons_succ]
              refine wpAnyH_take (i := 14) (v := ?_) rfl (by kernel_rfl) (by kernel_rfl) (by kernel_rfl) (fun _ _ _ h => h) (Or.inl ⟨by rfl, ?_⟩) (by assumption) ?_
              rotate_left
              · (intro w hSw; (try dsimp only at hSw); go_simp; try (with_reducible rfl))
              try simp only [Act.put, List.getElem_toArray, List.getElem_cons_zero, List.getElem_cons_succ, List.setIfInBounds_toArray, List.set_cons_zero, List.set_cons_succ]
              refine wpAnyH_take (i := 15) (v := ?_) rfl (by kernel_rfl) (by kernel_rfl) (by kernel_rfl) (fun _ _ _ h => h) (Or.inl ⟨by rfl, ?_⟩) (by assumption) ?_
              rotate_left
              · (intro w hSw; (try dsimp only at hSw); (have qs8 := hSw.cell (fun z => z) ka; have qs9 := hSw.cell (fun z => z) kb; have qa0 := hSw.cell (fun z => z) a0; have qa1 := hSw.cell (fun z => z) a1; have qa2 := hSw.cell (fun z => z) a2; have qa3 := hSw.cell (fun z => z) a3; have qa4 := hSw.cell (fun z => z) a4; have qa5 := hSw.cell (fun z => z) a5; have qa6 := hSw.cell (fun z => z) a6; have qa7 := hSw.cell (fun z => z) a7; have qb0 := hSw.cell (fun z => z) b0; have qb1 := hSw.cell (fun z => z) b1; have qb2 := hSw.cell (fun z => z) b2; have qb3 := hSw.cell (fun z => z) b3; have qb4 := hSw.cell (fun z => z) b4; have qb5 := hSw.cell (fun z => z) b5; have qb6 := hSw.cell (fun z => z) b6; have qb7 := hSw.cell (fun z => z) b7); go_simp; try (with_reducible rfl))
              try simp only [Act.put, List.getElem_toArray, List.getElem_cons_zero, List.getElem_cons_succ, List.setIfInBounds_toArray, List.set_cons_zero, List.set_cons_succ]
              refine wpAnyH_take (i := 16) (v := ?_) rfl (by kernel_rfl) (by kernel_rfl) (by kernel_rfl) (fun _ _ _ h => h) (Or.inl ⟨by rfl, ?_⟩) (by assumption) ?_
              rotate_left
              · (intro w hSw; (try dsimp only at hSw); go_simp; try (with_reducible rfl))
              try simp only [Act.put, List.getElem_toArray, List.getElem_cons_zero, List.getElem_cons_succ, List.setIfInBounds_toArray, List.set_cons_zero, List.set_cons_succ]
              refine wpAnyH_take (i := 17) (v := ?_) rfl (by kernel_rfl) (by kernel_rfl) (by kernel_rfl) (fun _ _ _ h => h) (Or.inl ⟨by rfl, ?_⟩) (by assumption) ?_
              rotate_left
              · (intro w hSw; (try dsimp only at hSw); go_simp; try (with_reducible rfl))
              try simp only [Act.put, List.getElem_toArray, List.getElem_cons_zero, List.getElem_cons_succ, List.setIfInBounds_toArray, List.set_cons_zero, List.set_cons_succ]
              refine wpAnyH_take (i := 18) (v := ?_) rfl (by kernel_rfl) (by kernel_rfl) (by kernel_rfl) (fun _ _ _ h => h) (Or.inl ⟨by rfl, ?_⟩) (by assumption) ?_
              rotate_left
              · (intro w hSw; (try dsimp only at hSw); go_simp; try (with_reducible rfl))
              try simp only [Act.put, List.getElem_toArray, List.getElem_cons_zero, List.getElem_cons_succ, List.setIfInBounds_toArray, List.set_cons_zero, List.set_cons_succ]
              refine wpAnyH_take (i := 19) (v := ?_) rfl (by kernel_rfl) (by kernel_rfl) (by kernel_rfl) (fun _ _ _ h => h) (Or.inl ⟨by rfl, ?_⟩) (by assumption) ?_
              rotate_left
              · (intro w hSw; (try dsimp only at hSw); (have qs8 := hSw.cell (fun z => z) ka; have qs9 := hSw.cell (fun z => z) kb; have qa0 := hSw.cell (fun z => z) a0; have qa1 := hSw.cell (fun z => z) a1; have qa2 := hSw.cell (fun z => z) a2; have qa3 := hSw.cell (fun z => z) a3; have qa4 := hSw.cell (fun z => z) a4; have qa5 := hSw.cell (fun z => z) a5; have qa6 := hSw.cell (fun z => z) a6; have qa7 := hSw.cell (fun z => z) a7; have qb0 := hSw.cell (fun z => z) b0; have qb1 := hSw.cell (fun z => z) b1; have qb2 := hSw.cell (fun z => z) b2; have qb3 := hSw.cell (fun z => z) b3; have qb4 := hSw.cell (fun z => z) b4; have qb5 := hSw.cell (fun z => z) b5; have qb6 := hSw.cell (fun z => z) b6; have qb7 := hSw.cell (fun z => z) b7); go_simp; try (with_reducible rfl))
              try simp only [Act.put, List.getElem_toArray, List.getElem_cons_zero, List.getElem_cons_succ, List.setIfInBounds_toArray, List.set_cons_zero, List.set_cons_succ]
              refine wpAnyH_take (i := 20) (v := ?_) rfl (by kernel_rfl) (by kernel_rfl) (by kernel_rfl) (fun _ _ _ h => h) (Or.inl ⟨by rfl, ?_⟩) (by assumption) ?_
              rotate_left
              · (intro w hSw; (try dsimp only at hSw); go_simp; try (with_reducible rfl))
              try simp only [Act.put, List.getElem_toArray, List.getElem_cons_zero, List.getElem_cons_succ, List.setIfInBounds_toArray, List.set_cons_zero, List.set_cons_succ]
              refine wpAnyH_take (i := 21) (v := ?_) rfl (by kernel_rfl) (by kernel_rfl) (by kernel_rfl) (fun _ _ _ h => h) (Or.inl ⟨by rfl, ?_⟩) (by assumption) ?_
              rotate_left
              · (intro w hSw; (try dsimp only at hSw); (have qs8 := hSw.cell (fun z => z) ka; have qs9 := hSw.cell (fun z => z) kb; have qa0 := hSw.cell (fun z => z) a0; have qa1 := hSw.cell (fun z => z) a1; have qa2 := hSw.cell (fun z => z) a2; have qa3 := hSw.cell (fun z => z) a3; have qa4 := hSw.cell (fun z => z) a4; have qa5 := hSw.cell (fun z => z) a5; have qa6 := hSw.cell (fun z => z) a6; have qa7 := hSw.cell (fun z => z) a7; have qb0 := hSw.cell (fun z => z) b0; have qb1 := hSw.cell (fun z => z) b1; have qb2 := hSw.cell (fun z => z) b2; have qb3 := hSw.cell (fun z => z) b3; have qb4 := hSw.cell (fun z => z) b4; have qb5 := hSw.cell (fun z => z) b5; have qb6 := hSw.cell (fun z => z) b6; have qb7 := hSw.cell (fun z => z) b7); go_simp; try (with_reducible rfl))
              try simp only [Act.put, List.getElem_toArray, List.getElem_cons_zero, List.getElem_cons_succ, List.setIfInBounds_toArray, List.set_cons_zero, List.set_cons_succ]
              refine wpAnyH_take (i := 22) (v := ?_) rfl (by kernel_rfl) (by kernel_rfl) (by kernel_rfl) (fun _ _ _ h => h) (Or.inl ⟨by rfl, ?_⟩) (by assumption) ?_
              rotate_left
              · (intro w hSw; (try dsimp only at hSw); go_simp; try (with_reducible rfl))
              try simp only [Act.put, List.getElem_toArray, List.getElem_cons_zero, List.getElem_cons_succ, List.setIfInBounds_toArray, List.set_cons_zero, List.set_cons_succ]
              refine wpAnyH_take (i := 23) (v := ?_) rfl (by kernel_rfl) (by kernel_rfl) (by kernel_rfl) (fun _ _ _ h => h) (Or.inl ⟨by rfl, ?_⟩) (by assumption) ?_
              rotate_left
              · (intro w hSw; (try dsimp only at hSw); go_simp; try (with_reducible rfl))
              try simp only [Act.put, List.getElem_toArray, List.getElem_cons_zero, List.getElem_cons_succ, List.setIfInBounds_toArray, List.set_cons_zero, List.set_cons_succ]
              refine wpAnyH_take (i := 24) (v := ?_) rfl (by kernel_rfl) (by kernel_rfl) (by kernel_rfl) (fun _ _ _ h => h) (Or.inl ⟨by rfl, ?_⟩) (by assumption) ?_
              rotate_left
              · (intro w hSw; (try dsimp only at hSw); go_simp; try (with_reducible rfl))
              try simp only [Act.put, List.getElem_toArray, List.getElem_cons_zero, List.getElem_cons_succ, List.setIfInBounds_toArray, List.set_cons_zero, List.set_cons_succ]
              refine wpAnyH_take (i := 25) (v := ?_) rfl (by kernel_rfl) (by kernel_rfl) (by kernel_rfl) (fun _ _ _ h => h) (Or.inl ⟨by rfl, ?_⟩) (by assumption) ?_
              rotate_left
              · (intro w hSw; (try dsimp only at hSw); (have qs8 := hSw.cell (fun z => z) ka; have qs9 := hSw.cell (fun z => z) kb; have qa0 := hSw.cell (fun z => z) a0; have qa1 := hSw.cell (fun z => z) a1; have qa2 := hSw.cell (fun z => z) a2; have qa3 := hSw.cell (fun z => z) a3; have qa4 := hSw.cell (fun z => z) a4; have qa5 := hSw.cell (fun z => z) a5; have qa6 := hSw.cell (fun z => z) a6; have qa7 := hSw.cell (fun z => z) a7; have qb0 := hSw.cell (fun z => z) b0; have qb1 := hSw.cell (fun z => z) b1; have qb2 := hSw.cell (fun z => z) b2; have qb3 := hSw.cell (fun z => z) b3; have qb4 := hSw.cell (fun z => z) b4; have qb5 := hSw.cell (fun z => z) b5; have qb6 := hSw.cell (fun z => z) b6; have qb7 := hSw.cell (fun z => z) b7); go_simp; try (with_reducible rfl))
              try simp only [Act.put, List.getElem_toArray, List.getElem_cons_zero, List.getElem_cons_succ, List.setIfInBounds_toArray, List.set_cons_zero, List.set_cons_succ]
              refine wpAnyH_take (i := 26) (v := ?_) rfl (by kernel_rfl) (by kernel_rfl) (by kernel_rfl) (fun _ _ _ h => h) (Or.inl ⟨by rfl, ?_⟩) (by assumption) ?_
              rotate_left
              · (intro w hSw; (try dsimp only at hSw); go_simp; try (with_reducible rfl))
              try simp only [Act.put, List.getElem_toArray, List.getElem_cons_zero, List.getElem_cons_succ, List.setIfInBounds_toArray, List.set_cons_zero, List.set_cons_succ]
              refine wpAnyH_ready (rs := [27]) (by kernel_rfl) (by simp) ?_
              refine (AllReadyH.cons rfl (fun K hK => ?_) AllReadyH.nil)
              · refine step_call_g (by rfl) 42 _ (by simp [go_sem]) (HCX.out _ hHeld) ?_
                rintro e9 w4 ⟨rfl, hexs⟩
                have HX4 := hide (hHeld.trans hexs)
                have HXL := hide HX4.out
                clear hexs
                refine ⟨_, rfl, ?_⟩
                refine hK.out _ _ ?_ (fun hHeld => ?_)
                · first | exact HX5.out | exact HX4.out
                clear hK K
                try simp only [Act.put, List.getElem_toArray, List.getElem_cons_zero, List.getElem_cons_succ, List.setIfInBounds_toArray, List.set_cons_zero, List.set_cons_succ]
                refine wpAnyH_take (i := 28) (v := ?_) rfl (by kernel_rfl) (by kernel_rfl) (by kernel_rfl) (fun _ _ _ h => h) (Or.inl ⟨by rfl, ?_⟩) (by assumption) ?_
                rotate_left
                · (intro w hSw; (try dsimp only at hSw); go_simp; try (with_reducible rfl))
                try simp only [Act.put, List.getElem_toArray, List.getElem_cons_zero, List.getElem_cons_succ, List.setIfInBounds_toArray, List.set_cons_zero, List.set_cons_succ]
                refine wpAnyH_take (i := 29) (v := ?_) rfl (by kernel_rfl) (by kernel_rfl) (by kernel_rfl) (fun _ _ _ h => h) (Or.inl ⟨by rfl, ?_⟩) (by assumption) ?_
                rotate_left
                · (intro w hSw; (try dsimp only at hSw); go_simp; try (with_reducible rfl))
                try simp only [Act.put, List.getElem_toArray, List.getElem_cons_zero, List.getElem_cons_succ, List.setIfInBounds_toArray, List.set_cons_zero, List.set_cons_succ]
                refine wpAnyH_done (by kernel_rfl) ?_ _
                clear hHeld
                go_wp2
                first | refine HJ3.out _ _ ?rel (by kernel_rfl) rfl ?measure | refine HJ2.out _ _ ?rel (by kernel_rfl) rfl ?measure | refine HJ1.out _ _ ?rel (by kernel_rfl) rfl ?measure
                case rel => (try dsimp only [rdA, getL]); (exact ⟨k2 + 1, by omega, by go_num, HX2.out.trans HXL.out⟩)
                case measure => (try dsimp only [rdA, getL]); (simp [intOf]; omega)
            · obtain rfl : k2 = ng := by omega
              have e1 : decide ((k2 : Int) < (k2 : Int)) = false := decide_eq_false (by omega)
              have HX := hide (HX.out.trans HX2.out)
              have HK8 := hide (HK8.out.keep HX2.out (fun z => z))
              have HK9 := hide (HK9.out.keep HX2.out (fun z => z))
              have HSX := hide (HSM.out.low HX2.out)
              clear HSM
              have HSM := HSX
              clear HSX HX2 hlt2 hk2 e1 HPg HRAg HRBg HLg
              have e1 : decide ((k2 : Int) < (k2 : Int)) = false := decide_eq_false (by omega)
              generalize hwv : wr = w8 at *
              clear hwv
              have ka0 := HK8.out.c0
              have kb0 := HK9.out.c0
              have ka1 := HK8.out.c1
              have kb1 := HK9.out.c1
              have ka2 := HK8.out.c2
              have kb2 := HK9.out.c2
              have ka3 := HK8.out.c3
              have kb3 := HK9.out.c3
              have ka4 := HK8.out.c4
              have kb4 := HK9.out.c4
              have ka5 := HK8.out.c5
              have kb5 := HK9.out.c5
              have ka6 := HK8.out.c6
              have kb6 := HK9.out.c6
              have ka7 := HK8.out.c7
              have kb7 := HK9.out.c7
              rw [← HEK.out] at kb0
              rw [← HEQX.out] at kb1
              rw [← HLR.out] at kb3
              rw [← HLG.out] at kb6
              rw [← HLC.out] at kb7
              go_upto_region 23 with fail
              obtain ⟨LAc, LBc, hra, hrb, hlr, hpr⟩ := HSM.out.co
              have HRAc := hide hra
              have HRBc := hide hrb
              have HPc := hide hpr
              have HLc := hide hlr
              clear hra hrb hlr hpr
              obtain ⟨nc, hnc⟩ : ∃ n, f.co.n = n := ⟨_, rfl⟩
              have HNc := hide hnc
              rw [hnc] at ka7 kb7
              clear hnc
              go_upto_region 24 with fail
              clear ka0 kb0 ka1 kb1 ka2 kb2 ka3 kb3 ka4 kb4 ka5 kb5 ka6 kb6 ka7 kb7
              refine wp_loop_mix [none, none, none, none, none, none, some 6, none, none, none, none, none, some 12, none, none, none, none, none, none, none, none, none, none, none, none, none, none, none, none, none, none, none, none, none, none, none, none, none, none, none, none, none, none, none, none, none, none, none, none, none, none, none, none, none, none, none, none, none, none, none, none, none, none, none, none, none, none, none, none, none, none, none, none, none, none, none, none, none, none, none, none, none, none, none, none, none, none, none, none, none, none, none, none, none, none, none, none, none, none, none, none, none, none, none, none, none, none, none, none, none, none, none, none, none, none, none, none, none, none, none, none, none, none, none, none, none, none, none, none, none, none, none, none, none, none, none, none, none, none, none, none, none, none, none, none, none, none, none, none, none, none, none, none, none, none, none, none, none, none, none, none, none, none, none, none, none, none, none, none, none, none, none, none, none, none, none, none, none, none, none, none, none, none, none, none, none, none, none, none, none, none, some 191, some 192, some 193, some 194, some 195, some 196, some 197, some 198, some 199, some 200, some 201, some 202, some 203, some 204, some 205, some 206, some 207, some 208, some 209, some 210, some 211, some 212, some 213, some 214, some 215, some 216, some 217, some 218, some 219, some 220, some 221, some 222, some 223, some 224, none] (by kernel_rfl) (fun us wy => (fun s191 wr => ∃ (k2 : Nat), k2 ≤ nc ∧ s191 = .int .i64 k2 ∧ Ex (fun _ => False) w8 wr) (us 191) wy) (fun us wy => (fun s191 _ => nc - (intOf s191).toNat) (us 191) wy) ?atStart ?round
              case atStart => (dsimp only [getL]; exact ⟨0, Nat.zero_le _, rfl, Ex.refl _ _⟩)
              case round =>
                intro us wr hrel J4 hJ4
                dsimp only at hrel hJ4
                dsimp only [mixF]
                generalize us 191 = s191 at hrel hJ4 ⊢
                have HJ4 := hide hJ4
                clear hJ4
                obtain ⟨k2, hk2, rfl, hex⟩ := hrel
                have HX2 := hide hex
                clear hex
                by_cases hlt2 : k2 < nc
                · have e1 : decide ((k2 : Int) < (nc : Int)) = true := decide_eq_true (by omega)
                  have e1n : decide (k2 < nc) = true := decide_eq_true hlt2
                  have hwk2 : IntKind.i64.wrap ((k2 : Int) + 1) = ((k2 + 1 : Nat) : Int) := wrk (by have := HRAc.out.len.2; rw [HNc.out] at this; unfold maxLen at this; omega)
                  obtain ⟨y, hy⟩ : ∃ y, LAc[k2]? = some y := ⟨_, List.getElem?_eq_getElem (by rw [← HRAc.out.len.1, HNc.out]; exact hlt2)⟩
                  obtain ⟨z, hz⟩ : ∃ y, LBc[k2]? = some y := ⟨_, List.getElem?_eq_getElem (by rw [← HLc.out, ← HRAc.out.len.1, HNc.out]; exact hlt2)⟩
                  have HPR := hide (HPc.out k2 y z hy hz)
                  obtain ⟨ga2, hqa, _, _⟩ := HRAc.out.2.2 (show 0 < f.co.n by rw [HNc.out]; omega)
                  obtain ⟨gb2, hqb, _, _⟩ := HRBc.out.2.2 (show 0 < g.co.n by rw [HRBc.out.len.1, ← HLc.out, ← HRAc.out.len.1, HNc.out]; omega)
                  have HRa := hide (RW.row (L := LAc) (F := gL) (g := ga2) (n := f.co.n) (c := f.co.c) (by rw [← hqa]; exact HRAc.out.low HX2.out) hy)
                  have HRb := hide (RW.row (L := LBc) (F := gL) (g := gb2) (n := g.co.n) (c := g.co.c) (by rw [← hqb]; exact HRBc.out.low HX2.out) hz)
                  have a0 := HRa.out.1.at (gL_len LAc) HRa.out.2 (j := 0) (by decide) (v := .string y.1) rfl
                  have a1 := HRa.out.1.at (gL_len LAc) HRa.out.2 (j := 1) (by decide) (v := .int .i64 y.2.k) rfl
                  have a2 := HRa.out.1.at (gL_len LAc) HRa.out.2 (j := 2) (by decide) (v := .string y.2.x) rfl
                  have a3 := HRa.out.1.at (gL_len LAc) HRa.out.2 (j := 3) (by decide) (v := .int .i64 y.2.n) rfl
                  have a4 := HRa.out.1.at (gL_len LAc) HRa.out.2 (j := 4) (by decide) (v := .string y.2.m) rfl
                  have a5 := HRa.out.1.at (gL_len LAc) HRa.out.2 (j := 5) (by decide) (v := .slice y.2.q y.2.ql y.2.qc) rfl
                  have a6 := HRa.out.1.at (gL_len LAc) HRa.out.2 (j := 6) (by decide) (v := .int .i64 y.2.li) rfl
                  have a7 := HRa.out.1.at (gL_len LAc) HRa.out.2 (j := 7) (by decide) (v := .int .i64 y.2.co) rfl
                  rw [Nat.add_zero] at a0
                  have b0 := HRb.out.1.at (gL_len LBc) HRb.out.2 (j := 0) (by decide) (v := .string z.1) rfl
                  have b1 := HRb.out.1.at (gL_len LBc) HRb.out.2 (j := 1) (by decide) (v := .int .i64 z.2.k) rfl
                  have b2 := HRb.out.1.at (gL_len LBc) HRb.out.2 (j := 2) (by decide) (v := .string z.2.x) rfl
                  have b3 := HRb.out.1.at (gL_len LBc) HRb.out.2 (j := 3) (by decide) (v := .int .i64 z.2.n) rfl
                  have b4 := HRb.out.1.at (gL_len LBc) HRb.out.2 (j := 4) (by decide) (v := .string z.2.m) rfl
                  have b5 := HRb.out.1.at (gL_len LBc) HRb.out.2 (j := 5) (by decide) (v := .slice z.2.q z.2.ql z.2.qc) rfl
                  have b6 := HRb.out.1.at (gL_len LBc) HRb.out.2 (j := 6) (by decide) (v := .int .i64 z.2.li) rfl
                  have b7 := HRb.out.1.at (gL_len LBc) HRb.out.2 (j := 7) (by decide) (v := .int .i64 z.2.co) rfl
                  rw [Nat.add_zero] at b0
                  have ka := (HK8.out.keep HX2.out (fun z => z)).c7
                  have kb := (HK9.out.keep HX2.out (fun z => z)).c7
                  rw [hqa, HNc.out] at ka
                  rw [hqb, ← HLC.out, HNc.out] at kb
                  clear hy hz hqa hqb HRa HRb
                  have HCX : Hid (∀ W, Ex (fun _ => False) wr W → Calls Try.prog 42 #[xV y.2, xV z.2, .bool false] W (RdB W true)) := fun W hW => HPR.out.x W (HX2.out.trans hW)
                  unfold xV at HCX
                  have HYZ : Hid (y.1 = z.1) := ba_eq (by have := HPR.out.n; simpa using this)
                  rw [← HYZ.out] at b0
                  clear HPR
                  go_upto_region 26 with fail
                  refine wp_region_held_drew (S := fun w' => Ex (fun _ => False) wr w') (by kernel_rfl) ((Ex.refl _ _).drew) (fun hHeld => ?_)
                  refine wpAnyH_take (i := 0) (v := ?_) rfl (by kernel_rfl) (by kernel_rfl) (by kernel_rfl) (fun _ _ _ h => h) (Or.inl ⟨by rfl, ?_⟩) (by assumption) ?_
                  rotate_left
                  · (intro w hSw; (try dsimp only at hSw); go_simp; try (with_reducible rfl))
                  try simp only [Act.put, List.getElem_toArray, List.getElem_cons_zero, List.getElem_cons_succ, List.setIfInBounds_toArray, List.set_cons_zero, List.set_cons_succ]
                  refine wpAnyH_take (i := 1) (v := ?_) rfl (by kernel_rfl) (by kernel_rfl) (by kernel_rfl) (fun _ _ _ h => h) (Or.inl ⟨by rfl, ?_⟩) (by assumption) ?_
                  rotate_left
                  · (intro w hSw; (try dsimp only at hSw); (have qs8 := hSw.cell (fun z => z) ka; have qs9 := hSw.cell (fun z => z) kb; have qa0 := hSw.cell (fun z => z) a0; have qa1 := hSw.cell (fun z => z) a1; have qa2 := hSw.cell (fun z => z) a2; have qa3 := hSw.cell (fun z => z) a3; have qa4 := hSw.cell (fun z => z) a4; have qa5 := hSw.cell (fun z => z) a5; have qa6 := hSw.cell (fun z => z) a6; have qa7 := hSw.cell (fun z => z) a7; have qb0 := hSw.cell (fun z => z) b0; have qb1 := hSw.cell (fun z => z) b1; have qb2 := hSw.cell (fun z => z) b2; have qb3 := hSw.cell (fun z => z) b3; have qb4 := hSw.cell (fun z => z) b4; have qb5 := hSw.cell (fun z => z) b5; have qb6 := hSw.cell (fun z => z) b6; have qb7 := hSw.cell (fun z => z) b7); go_simp; try (with_reducible rfl))
                  try simp only [Act.put, List.getElem_toArray, List.getElem_cons_zero, List.getElem_cons_succ, List.setIfInBounds_toArray, List.set_cons_zero, List.set_cons_succ]
                  refine wpAnyH_take (i := 2) (v := ?_) rfl (by kernel_rfl) (by kernel_rfl) (by kernel_rfl) (fun _ _ _ h => h) (Or.inl ⟨by rfl, ?_⟩) (by assumption) ?_
                  rotate_left
                  · (intro w hSw; (try dsimp only at hSw); go_simp; try (with_reducible rfl))
                  try simp only [Act.put, List.getElem_toArray, List.getElem_cons_zero, List.getElem_cons_succ, List.setIfInBounds_toArray, List.set_cons_zero, List.set_cons_succ]
                  refine wpAnyH_take (i := 3) (v := ?_) rfl (by kernel_rfl) (by kernel_rfl) (by kernel_rfl) (fun _ _ _ h => h) (Or.inl ⟨by rfl, ?_⟩) (by assumption) ?_
                  rotate_left
                  · (intro w hSw; (try dsimp only at hSw); go_simp; try (with_reducible rfl))
                  try simp only [Act.put, List.getElem_toArray, List.getElem_cons_zero, List.getElem_cons_succ, List.setIfInBounds_toArray, List.set_cons_zero, List.set_cons_succ]
                  refine wpAnyH_take (i := 4) (v := ?_) rfl (by kernel_rfl) (by kernel_rfl) (by kernel_rfl) (fun _ _ _ h => h) (Or.inl ⟨by rfl, ?_⟩) (by assumption) ?_
                  rotate_left
                  · (intro w hSw; (try dsimp only at hSw); go_simp; try (with_reducible rfl))
                  try simp only [Act.put, List.getElem_toArray, List.getElem_cons_zero, List.getElem_cons_succ, List.setIfInBounds_toArray, List.set_cons_zero, List.set_cons_succ]
                  refine wpAnyH_take (i := 5) (v := ?_) rfl (by kernel_rfl) (by kernel_rfl) (by kernel_rfl) (fun _ _ _ h => h) (Or.inl ⟨by rfl, ?_⟩) (by assumption) ?_
                  rotate_left
                  · (intro w hSw; (try dsimp only at hSw); (have qs8 := hSw.cell (fun z => z) ka; have qs9 := hSw.cell (fun z => z) kb; have qa0 := hSw.cell (fun z => z) a0; have qa1 := hSw.cell (fun z => z) a1; have qa2 := hSw.cell (fun z => z) a2; have qa3 := hSw.cell (fun z => z) a3; have qa4 := hSw.cell (fun z => z) a4; have qa5 := hSw.cell (fun z => z) a5; have qa6 := hSw.cell (fun z => z) a6; have qa7 := hSw.cell (fun z => z) a7; have qb0 := hSw.cell (fun z => z) b0; have qb1 := hSw.cell (fun z => z) b1; have qb2 := hSw.cell (fun z => z) b2; have qb3 := hSw.cell (fun z => z) b3; have qb4 := hSw.cell (fun z => z) b4; have qb5 := hSw.cell (fun z => z) b5; have qb6 := hSw.cell (fun z => z) b6; have qb7 := hSw.cell (fun z => z) b7); go_simp; try (with_reducible rfl))
                  try simp only [Act.put, List.getElem_toArray, List.getElem_cons_zero, List.getElem_cons_succ, List.setIfInBounds_toArray, List.set_cons_zero, List.set_cons_succ]
                  refine wpAnyH_take (i := 6) (v := ?_) rfl (by kernel_rfl) (by kernel_rfl) (by kernel_rfl) (fun _ _ _ h => h) (Or.inl ⟨by rfl, ?_⟩) (by assumption) ?_
                  rotate_left
                  · (intro w hSw; (try dsimp only at hSw); go_simp; try (with_reducible rfl))
                  try simp only [Act.put, List.getElem_toArray, List.getElem_cons_zero, List.getElem_cons_succ, List.setIfInBounds_toArray, List.set_cons_zero, List.set_cons_succ]
                  refine wpAnyH_take (i := 7) (v := ?_) rfl (by kernel_rfl) (by kernel_rfl) (by kernel_rfl) (fun _ _ _ h => h) (Or.inl ⟨by rfl, ?_⟩) (by assumption) ?_
                  rotate_left
                  · (intro w hSw; (try dsimp only at hSw); (have qs8 := hSw.cell (fun z => z) ka; have qs9 := hSw.cell (fun z => z) kb; have qa0 := hSw.cell (fun z => z) a0; have qa1 := hSw.cell (fun z => z) a1; have qa2 := hSw.cell (fun z => z) a2; have qa3 := hSw.cell (fun z => z) a3; have qa4 := hSw.cell (fun z => z) a4; have qa5 := hSw.cell (fun z => z) a5; have qa6 := hSw.cell (fun z => z) a6; have qa7 := hSw.cell (fun z => z) a7; have qb0 := hSw.cell (fun z => z) b0; have qb1 := hSw.cell (fun z => z) b1; have qb2 := hSw.cell (fun z => z) b2; have qb3 := hSw.cell (fun z => z) b3; have qb4 := hSw.cell (fun z => z) b4; have qb5 := hSw.cell (fun z => z) b5; have qb6 := hSw.cell (fun z => z) b6; have qb7 := hSw.cell (fun z => z) b7); go_simp; try (with_reducible rfl))
                  try simp only [Act.put, List.getElem_toArray, List.getElem_cons_zero, List.getElem_cons_succ, List.setIfInBounds_toArray, List.set_cons_zero, List.set_cons_succ]
                  refine wpAnyH_take (i := 8) (v := ?_) rfl (by kernel_rfl) (by kernel_rfl) (by kernel_rfl) (fun _ _ _ h => h) (Or.inl ⟨by rfl, ?_⟩) (by assumption) ?_
                  rotate_left
                  · (intro w hSw; (try dsimp only at hSw); go_simp; try (with_reducible rfl))
                  try simp only [Act.put, List.getElem_toArray, List.getElem_cons_zero, List.getElem_cons_succ, List.setIfInBounds_toArray, List.set_cons_zero, List.set_cons_succ]
                  refine wpAnyH_take (i := 9) (v := ?_) rfl (by kernel_rfl) (by kernel_rfl) (by kernel_rfl) (fun _ _ _ h => h) (Or.inl ⟨by rfl, ?_⟩) (by assumption) ?_
                  rotate_left
                  · (intro w hSw; (try dsimp only at hSw); go_simp; try (with_reducible rfl))
                  try simp only [Act.put, List.getElem_toArray, List.getElem_cons_zero, List.getElem_cons_succ, List.setIfInBounds_toArray, List.set_cons_zero, List.set_cons_succ]
                  refine wpAnyH_take (i := 10) (v := ?_) rfl (by kernel_rfl) (by kernel_rfl) (by kernel_rfl) (fun _ _ _ h => h) (Or.inl ⟨by rfl, ?_⟩) (by assumption) ?_
                  rotate_left
                  · (intro w hSw; (try dsimp only at hSw); go_simp; try (with_reducible rfl))
                  try simp only [Act.put, List.getElem_toArray, List.getElem_cons_zero, List.getElem_cons_succ, List.setIfInBounds_toArray, List.set_cons_zero, List.set_cons_succ]
                  refine wpAnyH_take (i := 11) (v := ?_) rfl (by kernel_rfl) (by kernel_rfl) (by kernel_rfl) (fun _ _ _ h => h) (Or.inl ⟨by rfl, ?_⟩) (by assumption) ?_
                  rotate_left
                  · (intro w hSw; (try dsimp only at hSw); (have qs8 := hSw.cell (fun z => z) ka; have qs9 := hSw.cell (fun z => z) kb; have qa0 := hSw.cell (fun z => z) a0; have qa1 := hSw.cell (fun z => z) a1; have qa2 := hSw.cell (fun z => z) a2; have qa3 := hSw.cell (fun z => z) a3; have qa4 := hSw.cell (fun z => z) a4; have qa5 := hSw.cell (fun z => z) a5; have qa6 := hSw.cell (fun z => z) a6; have qa7 := hSw.cell (fun z => z) a7; have qb0 := hSw.cell (fun z => z) b0; have qb1 := hSw.cell (fun z => z) b1; have qb2 := hSw.cell (fun z => z) b2; have qb3 := hSw.cell (fun z => z) b3; have qb4 := hSw.cell (fun z => z) b4; have qb5 := hSw.cell (fun z => z) b5; have qb6 := hSw.cell (fun z => z) b6; have qb7 := hSw.cell (fun z => z) b7); go_simp; try (with_reducible rfl))
                  try simp only [Act.put, List.getElem_toArray, List.getElem_cons_zero, List.getElem_cons_succ, List.setIfInBounds_toArray, List.set_cons_zero, List.set_cons_succ]
                  refine wpAnyH_take (i := 12) (v := ?_) rfl (by kernel_rfl) (by kernel_rfl) (by kernel_rfl) (fun _ _ _ h => h) (Or.inl ⟨by rfl, ?_⟩) (by assumption) ?_
                  rotate_left
                  · (intro w hSw; (try dsimp only at hSw); go_simp; try (with_reducible rfl))
                  try simp only [Act.put, List.getElem_toArray, List.getElem_cons_zero, List.getElem_cons_succ, List.setIfInBounds_toArray, List.set_cons_zero, List.set_cons_succ]
                  refine wpAnyH_take (i := 13) (v := ?_) rfl (by kernel_rfl) (by kernel_rfl) (by kernel_rfl) (fun _ _ _ h => h) (Or.inl ⟨by rfl, ?_⟩) (by assumption) ?_
                  rotate_left
                  · (intro w hSw; (try dsimp only at hSw); go_simp; try (with_reducible rfl))
                  try simp only [Act.put, List.getElem_toArray, List.getElem_cons_zero, List.getElem_cons_succ, List.setIfInBounds_toArray, List.set_cons_zero, List.set_cons_succ]
                  refine wpAnyH_take (i := 14) (v := ?_) rfl (by kernel_rfl) (by kernel_rfl) (by kernel_rfl) (fun _ _ _ h => h) (Or.inl ⟨by rfl, ?_⟩) (by assumption) ?_
                  rotate_left
                  · (intro w hSw; (try dsimp only at hSw); go_simp; try (with_reducible rfl))
                  try simp only [Act.put, List.getElem_toArray, List.getElem_cons_zero, List.getElem_cons_succ, List.setIfInBounds_toArray, List.set_cons_zero, List.set_cons_succ]
                  refine wpAnyH_take (i := 15) (v := ?_) rfl (by kernel_rfl) (by kernel_rfl) (by kernel_rfl) (fun _ _ _ h => h) (Or.inl ⟨by rfl, ?_⟩) (by assumption) ?_
                  rotate_left
                  · (intro w hSw; (try dsimp only at hSw); (have qs8 := hSw.cell (fun z => z) ka; have qs9 := hSw.cell (fun z => z) kb; have qa0 := hSw.cell (fun z => z) a0; have qa1 := hSw.cell (fun z => z) a1; have qa2 := hSw.cell (fun z => z) a2; have qa3 := hSw.cell (fun z => z) a3; have qa4 := hSw.cell (fun z => z) a4; have qa5 := hSw.cell (fun z => z) a5; have qa6 := hSw.cell (fun z => z) a6; have qa7 := hSw.cell (fun z => z) a7; have qb0 := hSw.cell (fun z => z) b0; have qb1 := hSw.cell (fun z => z) b1; have qb2 := hSw.cell (fun z => z) b2; have qb3 := hSw.cell (fun z => z) b3; have qb4 := hSw.cell (fun z => z) b4; have qb5 := hSw.cell (fun z => z) b5; have qb6 := hSw.cell (fun z => z) b6; have qb7 := hSw.cell (fun z => z) b7); go_simp; try (with_reducible rfl))
                  try simp only [Act.put, List.getElem_toArray, List.getElem_cons_zero, List.getElem_cons_succ, List.setIfInBounds_toArray, List.set_cons_zero, List.set_cons_succ]
                  refine wpAnyH_take (i := 16) (v := ?_) rfl (by kernel_rfl) (by kernel_rfl) (by kernel_rfl) (fun _ _ _ h => h) (Or.inl ⟨by rfl, ?_⟩) (by assumption) ?_
                  rotate_left
                  · (intro w hSw; (try dsimp only at hSw); go_simp; try (with_reducible rfl))
                  try simp only [Act.put, List.getElem_toArray, List.getElem_cons_zero, List.getElem_cons_succ, List.setIfInBounds_toArray, List.set_cons_zero, List.set_cons_succ]
                  refine wpAnyH_take (i := 17) (v := ?_) rfl (by kernel_rfl) (by kernel_rfl) (by kernel_rfl) (fun _ _ _ h => h) (Or.inl ⟨by rfl, ?_⟩) (by assumption) ?_
                  rotate_left
                  · (intro w hSw; (try dsimp only at hSw); go_simp; try (with_reducible rfl))
                  try simp only [Act.put, List.getElem_toArray, List.getElem_cons_zero, List.getElem_cons_succ, List.setIfInBounds_toArray, List.set_cons_zero, List.set_cons_succ]
                  refine wpAnyH_take (i := 18) (v := ?_) rfl (by kernel_rfl) (by kernel_rfl) (by kernel_rfl) (fun _ _ _ h => h) (Or.inl ⟨by rfl, ?_⟩) (by assumption) ?_
                  rotate_left
                  · (intro w hSw; (try dsimp only at hSw); go_simp; try (with_reducible rfl))
                  try simp only [Act.put, List.getElem_toArray, List.getElem_cons_zero, List.getElem_cons_succ, List.setIfInBounds_toArray, List.set_cons_zero, List.set_cons_succ]
                  refine wpAnyH_take (i := 19) (v := ?_) rfl (by kernel_rfl) (by kernel_rfl) (by kernel_rfl) (fun _ _ _ h => h) (Or.inl ⟨by rfl, ?_⟩) (by assumption) ?_
                  rotate_left
                  · (intro w hSw; (try dsimp only at hSw); (have qs8 := hSw.cell (fun z => z) ka; have qs9 := hSw.cell (fun z => z) kb; have qa0 := hSw.cell (fun z => z) a0; have qa1 := hSw.cell (fun z => z) a1; have qa2 := hSw.cell (fun z => z) a2; have qa3 := hSw.cell (fun z => z) a3; have qa4 := hSw.cell (fun z => z) a4; have qa5 := hSw.cell (fun z => z) a5; have qa6 := hSw.cell (fun z => z) a6; have qa7 := hSw.cell (fun z => z) a7; have qb0 := hSw.cell (fun z => z) b0; have qb1 := hSw.cell (fun z => z) b1; have qb2 := hSw.cell (fun z => z) b2; have qb3 := hSw.cell (fun z => z) b3; have qb4 := hSw.cell (fun z => z) b4; have qb5 := hSw.cell (fun z => z) b5; have qb6 := hSw.cell (fun z => z) b6; have qb7 := hSw.cell (fun z => z) b7); go_simp; try (with_reducible rfl))
                  try simp only [Act.put, List.getElem_toArray, List.getElem_cons_zero, List.getElem_cons_succ, List.setIfInBounds_toArray, List.set_cons_zero, List.set_cons_succ]
                  refine wpAnyH_take (i := 20) (v := ?_) rfl (by kernel_rfl) (by kernel_rfl) (by kernel_rfl) (fun _ _ _ h => h) (Or.inl ⟨by rfl, ?_⟩) (by assumption) ?_
                  rotate_left
                  · (intro w hSw; (try dsimp only at hSw); go_simp; try (with_reducible rfl))
                  try simp only [Act.put, List.getElem_toArray, List.getElem_cons_zero, List.getElem_cons_succ, List.setIfInBounds_toArray, List.set_cons_zero, List.set_cons_succ]
                  refine wpAnyH_take (i := 21) (v := ?_) rfl (by kernel_rfl) (by kernel_rfl) (by kernel_rfl) (fun _ _ _ h => h) (Or.inl ⟨by rfl, ?_⟩) (by assumption) ?_
                  rotate_left
                  · (intro w hSw; (try dsimp only at hSw); (have qs8 := hSw.cell (fun z => z) ka; have qs9 := hSw.cell (fun z => z) kb; have qa0 := hSw.cell (fun z => z) a0; have qa1 := hSw.cell (fun z => z) a1; have qa2 := hSw.cell (fun z => z) a2; have qa3 := hSw.cell (fun z => z) a3; have qa4 := hSw.cell (fun z => z) a4; have qa5 := hSw.cell (fun z => z) a5; have qa6 := hSw.cell (fun z => z) a6; have qa7 := hSw.cell (fun z => z) a7; have qb0 := hSw.cell (fun z => z) b0; have qb1 := hSw.cell (fun z => z) b1; have qb2 := hSw.cell (fun z => z) b2; have qb3 := hSw.cell (fun z => z) b3; have qb4 := hSw.cell (fun z => z) b4; have qb5 := hSw.cell (fun z => z) b5; have qb6 := hSw.cell (fun z => z) b6; have qb7 := hSw.cell (fun z => z) b7); go_simp; try (with_reducible rfl))
                  try simp only [Act.put, List.getElem_toArray, List.getElem_cons_zero, List.getElem_cons_succ, List.setIfInBounds_toArray, List.set_cons_zero, List.set_cons_succ]
                  refine wpAnyH_take (i := 22) (v := ?_) rfl (by kernel_rfl) (by kernel_rfl) (by kernel_rfl) (fun _ _ _ h => h) (Or.inl ⟨by rfl, ?_⟩) (by assumption) ?_
                  rotate_left
                  · (intro w hSw; (try dsimp only at hSw); go_simp; try (with_reducible rfl))
                  try simp only [Act.put, List.getElem_toArray, List.getElem_cons_zero, List.getElem_cons_succ, List.setIfInBounds_toArray, List.set_cons_zero, List.set_cons_succ]
                  refine wpAnyH_take (i := 23) (v := ?_) rfl (by kernel_rfl) (by kernel_rfl) (by kernel_rfl) (fun _ _ _ h => h) (Or.inl ⟨by rfl, ?_⟩) (by assumption) ?_
                  rotate_left
                  · (intro w hSw; (try dsimp only at hSw); go_simp; try (with_reducible rfl))
                  try simp only [Act.put, List.getElem_toArray, List.getElem_cons_zero, List.getElem_cons_succ, List.setIfInBounds_toArray, List.set_cons_zero, List.set_cons_succ]
                  refine wpAnyH_take (i := 24) (v := ?_) rfl (by kernel_rfl) (by kernel_rfl) (by kernel_rfl) (fun _ _ _ h => h) (Or.inl ⟨by rfl, ?_⟩) (by assumption) ?_
                  rotate_left
                  · (intro w hSw; (try dsimp only at hSw); go_simp; try (with_reducible rfl))
                  try simp only [Act.put, List.getElem_toArray, List.getElem_cons_zero, List.getElem_cons_succ, List.setIfInBounds_toArray, List.set_cons_zero, List.set_cons_succ]
                  refine wpAnyH_take (i := 25) (v := ?_) rfl (by kernel_rfl) (by kernel_rfl) (by kernel_rfl) (fun _ _ _ h => h) (Or.inl ⟨by rfl, ?_⟩) (by assumption) ?_
                  rotate_left
                  · (intro w hSw; (try dsimp only at hSw); (have qs8 := hSw.cell (fun z => z) ka; have qs9 := hSw.cell (fun z => z) kb; have qa0 := hSw.cell (fun z => z) a0; have qa1 := hSw.cell (fun z => z) a1; have qa2 := hSw.cell (fun z => z) a2; have qa3 := hSw.cell (fun z => z) a3; have qa4 := hSw.cell (fun z => z) a4; have qa5 := hSw.cell (fun z => z) a5; have qa6 := hSw.cell (fun z => z) a6; have qa7 := hSw.cell (fun z => z) a7; have qb0 := hSw.cell (fun z => z) b0; have qb1 := hSw.cell (fun z => z) b1; have qb2 := hSw.cell (fun z => z) b2; have qb3 := hSw.cell (fun z => z) b3; have qb4 := hSw.cell (fun z => z) b4; have qb5 := hSw.cell (fun z => z) b5; have qb6 := hSw.cell (fun z => z) b6; have qb7 := hSw.cell (fun z => z) b7); go_simp; try (with_reducible rfl))
                  try simp only [Act.put, List.getElem_toArray, List.getElem_cons_zero, List.getElem_cons_succ, List.setIfInBounds_toArray, List.set_cons_zero, List.set_cons_succ]
                  refine wpAnyH_take (i := 26) (v := ?_) rfl (by kernel_rfl) (by kernel_rfl) (by kernel_rfl) (fun _ _ _ h => h) (Or.inl ⟨by rfl, ?_⟩) (by assumption) ?_
                  rotate_left
                  · (intro w hSw; (try dsimp only at hSw); go_simp; try (with_reducible rfl))
                  try simp only [Act.put, List.getElem_toArray, List.getElem_cons_zero, List.getElem_cons_succ, List.setIfInBounds_toArray, List.set_cons_zero, List.set_cons_succ]
                  refine wpAnyH_ready (rs := [27]) (by kernel_rfl) (by simp) ?_
                  refine (AllReadyH.cons rfl (fun K hK => ?_) AllReadyH.nil)
                  · refine step_call_g (by rfl) 42 _ (by simp [go_sem]) (HCX.out _ hHeld) ?_
                    rintro e9 w4 ⟨rfl, hexs⟩
                    have HX4 := hide (hHeld.trans hexs)
                    have HXL := hide HX4.out
                    clear hexs
                    refine ⟨_, rfl, ?_⟩
                    refine hK.out _ _ ?_ (fun hHeld => ?_)
                    · first | exact HX5.out | exact HX4.out
                    clear hK K
                    try simp only [Act.put, List.getElem_toArray, List.getElem_cons_zero, List.getElem_cons_succ, List.setIfInBounds_toArray, List.set_cons_zero, List.set_cons_succ]
                    refine wpAnyH_take (i := 28) (v := ?_) rfl (by kernel_rfl) (by kernel_rfl) (by kernel_rfl) (fun _ _ _ h => h) (Or.inl ⟨by rfl, ?_⟩) (by assumption) ?_
                    rotate_left
                    · (intro w hSw; (try dsimp only at hSw); go_simp; try (with_reducible rfl))
                    try simp only [Act.put, List.getElem_toArray, List.getElem_cons_zero, List.getElem_cons_succ, List.setIfInBounds_toArray, List.set_cons_zero, List.set_cons_succ]
                    refine wpAnyH_take (i := 29) (v := ?_) rfl (by kernel_rfl) (by kernel_rfl) (by kernel_rfl) (fun _ _ _ h => h) (Or.inl ⟨by rfl, ?_⟩) (by assumption) ?_
                    rotate_left
                    · (intro w hSw; (try dsimp only at hSw); go_simp; try (with_reducible rfl))
                    try simp only [Act.put, List.getElem_toArray, List.getElem_cons_zero, List.getElem_cons_succ, List.setIfInBounds_toArray, List.set_cons_zero, List.set_cons_succ]
                    refine wpAnyH_done (by kernel_rfl) ?_ _
                    clear hHeld
                    go_wp2
                    first | refine HJ4.out _ _ ?rel (by kernel_rfl) rfl ?measure | refine HJ3.out _ _ ?rel (by kernel_rfl) rfl ?measure | refine HJ2.out _ _ ?rel (by kernel_rfl) rfl ?measure | refine HJ1.out _ _ ?rel (by kernel_rfl) rfl ?measure
                    case rel => (try dsimp only [rdA, getL]); (exact ⟨k2 + 1, by omega, by go_num, HX2.out.trans HXL.out⟩)
                    case measure => (try dsimp only [rdA, getL]); (simp [intOf]; omega)
                · obtain rfl : k2 = nc := by omega
                  have e1 : decide ((k2 : Int) < (k2 : Int)) = false := decide_eq_false (by omega)
                  have HX := hide (HX.out.trans HX2.out)
                  have HK8 := hide (HK8.out.keep HX2.out (fun z => z))
                  have HK9 := hide (HK9.out.keep HX2.out (fun z => z))
                  have HSX := hide (HSM.out.low HX2.out)
                  clear HSM
                  have HSM := HSX
                  clear HSX HX2 hlt2 hk2 e1 HPc HRAc HRBc HLc
                  have e1 : decide ((k2 : Int) < (k2 : Int)) = false := decide_eq_false (by omega)
                  generalize hwv : wr = w9 at *
                  clear hwv
                  go_wp2
                  rw [← HQA.out, ← HQB.out]
                  first | refine HJ4.out _ _ ?rel (by kernel_rfl) rfl ?measure | refine HJ3.out _ _ ?rel (by kernel_rfl) rfl ?measure | refine HJ2.out _ _ ?rel (by kernel_rfl) rfl ?measure | refine HJ1.out _ _ ?rel (by kernel_rfl) rfl ?measure
                  case rel => (try dsimp only [rdA, getL]); (exact ⟨k + 1, by omega, by go_num, HX.out⟩)
                  case measure => (try dsimp only [rdA, getL]); (simp [intOf]; omega)
    · obtain rfl : k = n := by omega
      have d1 : decide ((k : Int) < (k : Int)) = false := decide_eq_false (by omega)
      go_wp2
      go_ret
      exact ⟨rfl, HX.out⟩
end Go.Proofs.Qxb6500774a
