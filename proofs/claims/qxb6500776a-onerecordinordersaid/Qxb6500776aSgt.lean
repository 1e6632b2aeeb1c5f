import Derived.Test.Qxb6500776aRch
namespace Go.Proofs.Qxb6500776a
open Go.RowKit

/-- The smoke's row. -/
structure SR (w : World) (v2 : Value) (M : List Smk) : Prop where
  row : w.ownsRow 0 52 3 v2 M.length (M.flatMap Smk.vals)
  ml : M.length ≤ 32
  mo : ∀ m ∈ M, SmkOk m
theorem SR.keep {w w' : World} {v2 : Value} {M : List Smk} (h : SR w v2 M) {S : Nat → Prop} (e : Ex S w w') (hs : ∀ k, v2.ownBlock = some k → ¬ S k) : SR w' v2 M := ⟨own_kept h.row e hs, h.ml, h.mo⟩
theorem SR.below {w w' : World} {v2 : Value} {M : List Smk} (h : SR w v2 M) (hb : Below w.heap.size w w') : SR w' v2 M := h.keep (Ex.of (S := fun _ => False) hb) (fun _ _ e => e)
theorem SR.at {w : World} {g c n : Nat} {M : List Smk} (h : SR w (.slice (some ⟨g, 0, none⟩) n c) M) (hn : n = M.length) {i : Nat} {m : Smk} (hi : M[i]? = some m) : w.cell? ⟨g, i * 3, none⟩ = some (.int .i64 m.x) ∧ w.cell? ⟨g, i * 3 + 1, none⟩ = some (.int .i64 m.y) ∧ w.cell? ⟨g, i * 3 + 2, none⟩ = some (.int .i64 m.r) := by
  subst hn
  have hil : i < M.length := (List.getElem?_eq_some_iff.1 hi).1
  have key : ∀ j, j < 3 → w.cell? ⟨g, i * 3 + j, none⟩ = m.vals[j]? := fun j hj => by
    rw [h.row.cellAt (i * 3 + j) (by omega), flat_at _ 3 Smk.vals_len M i m hi j hj]
  exact ⟨key 0 (by omega), key 1 (by omega), key 2 (by omega)⟩
theorem all_take {M : List Smk} {P : Smk → Bool} {i : Nat} {m : Smk} (hi : M[i]? = some m) (h : ∀ (j : Nat) (x : Smk), j < i → M[j]? = some x → P x = true) (hm : P m = true) : ∀ (j : Nat) (x : Smk), j < i + 1 → M[j]? = some x → P x = true := fun j x hj hx => by
  rcases (by omega : j < i ∨ j = i) with z | rfl
  · exact h j x z hx
  · rw [hi] at hx; cases hx; exact hm
theorem lec2 {a b c : World} (h : Below a.heap.size a b) (k : Below b.heap.size b c) : Below a.heap.size a c := lec h k
theorem belN (w : World) (k : Nat) : Below w.heap.size w (w.drewN k) := ((Ex.refl (fun _ => False) w).drewN k).below (Nat.le_refl _) (fun _ _ e => e)
theorem fr_new (w : World) (cs : Array Value) (t j : Nat) : (w.alloc (.cells cs t)).frozen? ⟨w.heap.size, j, none⟩ = false := by
  simp [go_sem]
set_option maxRecDepth 100000 in
set_option maxHeartbeats 4000000 in
theorem sight_any (w : World) (s : Nat) (C : Nat → Value) (v2 : Value) (M : List Smk) (h : CB w s C) (hc : C 1714 = v2) (hr : SR w v2 M) (o t : Shp) (ho : ShpOk o) (ht : ShpOk t) :
    Calls Try.prog 72 #[.pointer (some ⟨s, 0, none⟩), .agg #[.int .i64 o.id, .int .i64 o.team, .int .i64 o.x, .int .i64 o.y, .int .i64 o.depth, .int .i64 o.speed, .int .i64 o.mast, .int .i64 o.noise, .bool o.afloat, .bool o.radar, .bool o.sonar, .bool o.ping], .agg #[.int .i64 t.id, .int .i64 t.team, .int .i64 t.x, .int .i64 t.y, .int .i64 t.depth, .int .i64 t.speed, .int .i64 t.mast, .int .i64 t.noise, .bool t.afloat, .bool t.radar, .bool t.sonar, .bool t.ping]] w fun e w' => e = .returned (.bool (M.all fun m => !segO o t m)) ∧ Below w.heap.size w w' := by
  obtain ⟨a0, c0, e0⟩ := own_form hr.row
  obtain ⟨P, hP⟩ : ∃ P, (fun m => !segO o t m) = P := ⟨_, rfl⟩
  rw [hP]
  have HP := hide hP
  have HC := hide (h.below (be2 w (.cells (shpA o) 38) (.cells (shpA t) 38)))
  have HR := hide (hr.below (be2 w (.cells (shpA o) 38) (.cells (shpA t) 38)))
  have HV := hide (hc.trans e0)
  have HVV := hide e0
  have hM32 := hr.ml
  have HOK := hide (And.intro ho ht)
  obtain ⟨n, hn⟩ : ∃ n, M.length = n := ⟨_, rfl⟩
  rw [hn] at HV hM32 HVV
  have HN := hide hn
  clear h hr hc e0 hn hP ho ht
  have HX := hide ((BX.new w o).keep ((Ex.refl (fun _ => False) _).alloc (.cells (shpA t) 38)) (fun e => e))
  have HY := hide (BX.new (w.alloc (.cells (shpA o) 38)) t)
  have hsz : (w.alloc (.cells (shpA o) 38)).heap.size = w.heap.size + 1 := by simp
  rw [hsz] at HY
  have HE := hide (be2 w (.cells (shpA o) 38) (.cells (shpA t) 38))
  clear hsz
  go_enter Try.func72, Try.ntmps72
  go_upto_region 1 with fail
  have hsa : #[.int .i64 o.id, .int .i64 o.team, .int .i64 o.x, .int .i64 o.y, .int .i64 o.depth, .int .i64 o.speed, .int .i64 o.mast, .int .i64 o.noise, .bool o.afloat, .bool o.radar, .bool o.sonar, .bool o.ping] = shpA o := rfl
  have hst : #[.int .i64 t.id, .int .i64 t.team, .int .i64 t.x, .int .i64 t.y, .int .i64 t.depth, .int .i64 t.speed, .int .i64 t.mast, .int .i64 t.noise, .bool t.afloat, .bool t.radar, .bool t.sonar, .bool t.ping] = shpA t := rfl
  rw [hsa, hst]
  clear hsa hst
  generalize (w.alloc (.cells (shpA o) 38)).alloc (.cells (shpA t) 38) = w1 at *
  obtain ⟨q2, hq2⟩ : ∃ q, w.heap.size + 1 = q := ⟨_, rfl⟩
  rw [hq2] at HY ⊢
  clear hq2
  obtain ⟨q, hq⟩ : ∃ q, w.heap.size = q := ⟨_, rfl⟩
  rw [hq] at HX ⊢
  clear hq

  have x2 := HX.out.c2
  have x3 := HX.out.c3
  have y2 := HY.out.c2
  have y3 := HY.out.c3
  by_cases h1 : t.x < o.x
  · by_cases h2 : t.y < o.y
    · go_quiet (fail)
      go_upto_region 4 with fail
      go_quiet (fail)
      go_upto_region 7 with fail
      rename_i nq
      clear x2 x3 y2 y3
      go_wp2
      go_loopw [11] (fun si wr => ∃ i : Nat, i ≤ n ∧ si = .int .i64 i ∧ Below w1.heap.size w1 wr ∧ ∀ (j : Nat) (x : Smk), j < i → M[j]? = some x → P x = true) (fun si _ => n - (intOf si).toNat)
      case atStart => exact ⟨0, by omega, rfl, belN _ _, fun j x hj => by omega⟩
      case round =>
        obtain ⟨i, hi, rfl, hbel, hal⟩ := hrel
        have HA := hide hal
        have HB := hide hbel
        have z3 := (HC.out.below hbel).c 1714 (by omega)
        rw [HV.out] at z3
        clear hal hbel
        by_cases hlt : i < n
        · have hlti : (i : Int) < (n : Int) := by omega
          obtain ⟨m, hm⟩ : ∃ m, M[i]? = some m := ⟨_, List.getElem?_eq_getElem (by have := HN.out; omega)⟩
          obtain ⟨g, c, e1⟩ := own_some (HR.out.below HB.out).row (by have := HN.out; omega)
          rw [HN.out, HVV.out] at e1
          cases e1
          have hrow := HR.out.below HB.out
          rw [HVV.out] at hrow
          obtain ⟨k0, k1, k2⟩ := hrow.at HN.out.symm hm
          have hok := HR.out.mo m (List.mem_of_getElem? hm)
          have HM := hide hm
          have hmx := hok.x
          have hmy := hok.y
          have hmr := hok.r
          have HOm := hide hok
          unfold OnM at hmx hmy
          clear hm hok hrow
          go_upto_region 11 with fail
          have d0 : (wr.alloc (.cells #[.int .i64 m.x, .int .i64 m.y, .int .i64 m.r] 52)).cell? ⟨wr.heap.size, 0, none⟩ = some (.int .i64 m.x) := by simp [go_sem]
          have d1 : (wr.alloc (.cells #[.int .i64 m.x, .int .i64 m.y, .int .i64 m.r] 52)).cell? ⟨wr.heap.size, 1, none⟩ = some (.int .i64 m.y) := by simp [go_sem]
          have d2 : (wr.alloc (.cells #[.int .i64 m.x, .int .i64 m.y, .int .i64 m.r] 52)).cell? ⟨wr.heap.size, 2, none⟩ = some (.int .i64 m.r) := by simp [go_sem]
          have HB2 := hide (lec HB.out (be1 wr (.cells #[.int .i64 m.x, .int .i64 m.y, .int .i64 m.r] 52)))
          have HP1 := hide (show P m = !segO o t m by rw [← HP.out])
          generalize wr.alloc (.cells #[.int .i64 m.x, .int .i64 m.y, .int .i64 m.r] 52) = wd at *
          obtain ⟨p, hp⟩ : ∃ p, wr.heap.size = p := ⟨_, rfl⟩
          rw [hp] at d0 d1 d2 ⊢
          have x2 := (HX.out.below HB2.out).c2
          have x3 := (HX.out.below HB2.out).c3
          have y2 := (HY.out.below HB2.out).c2
          have y3 := (HY.out.below HB2.out).c3
          clear hp z3 k0 k1 k2 HB
          by_cases a1 : m.x + m.r < t.x
          · go_wp2
            go_roundw
            case rel => exact ⟨i + 1, by omega, by simp, HB2.out, all_take HM.out HA.out (by rw [HP1.out]; unfold segO; rw [seg_box hmr.1 (by omega)]; rfl)⟩
            case measure => simp [intOf]; omega
          · by_cases a2 : o.x < m.x - m.r
            · go_wp2
              go_roundw
              case rel => exact ⟨i + 1, by omega, by simp, HB2.out, all_take HM.out HA.out (by rw [HP1.out]; unfold segO; rw [seg_box hmr.1 (by omega)]; rfl)⟩
              case measure => simp [intOf]; omega
            · by_cases a3 : m.y + m.r < t.y
              · go_wp2
                go_roundw
                case rel => exact ⟨i + 1, by omega, by simp, HB2.out, all_take HM.out HA.out (by rw [HP1.out]; unfold segO; rw [seg_box hmr.1 (by omega)]; rfl)⟩
                case measure => simp [intOf]; omega
              · by_cases a4 : o.y < m.y - m.r
                · go_wp2
                  go_roundw
                  case rel => exact ⟨i + 1, by omega, by simp, HB2.out, all_take HM.out HA.out (by rw [HP1.out]; unfold segO; rw [seg_box hmr.1 (by omega)]; rfl)⟩
                  case measure => simp [intOf]; omega
                · have HH := hide (And.intro h1 h2)
                  go_upto_region 12 with fail
                  clear a1 a2 a3 a4 h1 h2
                  go_wp2_with fail
                  refine (segDisc_any _ o.x o.y t.x t.y m.x m.y m.r HOK.out.1.x HOK.out.1.y HOK.out.2.x HOK.out.2.y HOm.out.x HOm.out.y HOm.out.r).mono ?_
                  rintro e w5 ⟨rfl, b5⟩
                  have HB5 := hide (lec HB2.out b5)
                  clear b5 x2 x3 y2 y3 d0 d1 d2
                  cases hseg : segP o.x o.y t.x t.y m.x m.y m.r
                  · go_wp2
                    go_roundw
                    case rel => exact ⟨i + 1, by omega, by simp, HB5.out, all_take HM.out HA.out (by rw [HP1.out]; unfold segO; rw [hseg]; rfl)⟩
                    case measure => simp [intOf]; omega
                  · go_wp2
                    go_ret
                    refine ⟨ret_bool ?_, lec HE.out HB5.out⟩
                    symm
                    rw [List.all_eq_false]
                    exact ⟨m, List.mem_of_getElem? HM.out, by rw [HP1.out]; unfold segO; rw [hseg]; simp⟩
        · obtain rfl : i = n := by omega
          go_wp2
          go_ret
          refine ⟨ret_bool ?_, lec HE.out HB.out⟩
          symm
          rw [List.all_eq_true]
          intro m hm
          obtain ⟨j, hj, rfl⟩ := List.getElem_of_mem hm
          exact HA.out j _ (by have := HN.out; omega) (List.getElem?_eq_getElem hj)
    · go_quiet (fail)
      go_upto_region 4 with fail
      go_quiet (fail)
      go_upto_region 7 with fail
      rename_i nq
      clear x2 x3 y2 y3
      go_wp2
      go_loopw [11] (fun si wr => ∃ i : Nat, i ≤ n ∧ si = .int .i64 i ∧ Below w1.heap.size w1 wr ∧ ∀ (j : Nat) (x : Smk), j < i → M[j]? = some x → P x = true) (fun si _ => n - (intOf si).toNat)
      case atStart => exact ⟨0, by omega, rfl, belN _ _, fun j x hj => by omega⟩
      case round =>
        obtain ⟨i, hi, rfl, hbel, hal⟩ := hrel
        have HA := hide hal
        have HB := hide hbel
        have z3 := (HC.out.below hbel).c 1714 (by omega)
        rw [HV.out] at z3
        clear hal hbel
        by_cases hlt : i < n
        · have hlti : (i : Int) < (n : Int) := by omega
          obtain ⟨m, hm⟩ : ∃ m, M[i]? = some m := ⟨_, List.getElem?_eq_getElem (by have := HN.out; omega)⟩
          obtain ⟨g, c, e1⟩ := own_some (HR.out.below HB.out).row (by have := HN.out; omega)
          rw [HN.out, HVV.out] at e1
          cases e1
          have hrow := HR.out.below HB.out
          rw [HVV.out] at hrow
          obtain ⟨k0, k1, k2⟩ := hrow.at HN.out.symm hm
          have hok := HR.out.mo m (List.mem_of_getElem? hm)
          have HM := hide hm
          have hmx := hok.x
          have hmy := hok.y
          have hmr := hok.r
          have HOm := hide hok
          unfold OnM at hmx hmy
          clear hm hok hrow
          go_upto_region 11 with fail
          have d0 : (wr.alloc (.cells #[.int .i64 m.x, .int .i64 m.y, .int .i64 m.r] 52)).cell? ⟨wr.heap.size, 0, none⟩ = some (.int .i64 m.x) := by simp [go_sem]
          have d1 : (wr.alloc (.cells #[.int .i64 m.x, .int .i64 m.y, .int .i64 m.r] 52)).cell? ⟨wr.heap.size, 1, none⟩ = some (.int .i64 m.y) := by simp [go_sem]
          have d2 : (wr.alloc (.cells #[.int .i64 m.x, .int .i64 m.y, .int .i64 m.r] 52)).cell? ⟨wr.heap.size, 2, none⟩ = some (.int .i64 m.r) := by simp [go_sem]
          have HB2 := hide (lec HB.out (be1 wr (.cells #[.int .i64 m.x, .int .i64 m.y, .int .i64 m.r] 52)))
          have HP1 := hide (show P m = !segO o t m by rw [← HP.out])
          generalize wr.alloc (.cells #[.int .i64 m.x, .int .i64 m.y, .int .i64 m.r] 52) = wd at *
          obtain ⟨p, hp⟩ : ∃ p, wr.heap.size = p := ⟨_, rfl⟩
          rw [hp] at d0 d1 d2 ⊢
          have x2 := (HX.out.below HB2.out).c2
          have x3 := (HX.out.below HB2.out).c3
          have y2 := (HY.out.below HB2.out).c2
          have y3 := (HY.out.below HB2.out).c3
          clear hp z3 k0 k1 k2 HB
          by_cases a1 : m.x + m.r < t.x
          · go_wp2
            go_roundw
            case rel => exact ⟨i + 1, by omega, by simp, HB2.out, all_take HM.out HA.out (by rw [HP1.out]; unfold segO; rw [seg_box hmr.1 (by omega)]; rfl)⟩
            case measure => simp [intOf]; omega
          · by_cases a2 : o.x < m.x - m.r
            · go_wp2
              go_roundw
              case rel => exact ⟨i + 1, by omega, by simp, HB2.out, all_take HM.out HA.out (by rw [HP1.out]; unfold segO; rw [seg_box hmr.1 (by omega)]; rfl)⟩
              case measure => simp [intOf]; omega
            · by_cases a3 : m.y + m.r < o.y
              · go_wp2
                go_roundw
                case rel => exact ⟨i + 1, by omega, by simp, HB2.out, all_take HM.out HA.out (by rw [HP1.out]; unfold segO; rw [seg_box hmr.1 (by omega)]; rfl)⟩
                case measure => simp [intOf]; omega
              · by_cases a4 : t.y < m.y - m.r
                · go_wp2
                  go_roundw
                  case rel => exact ⟨i + 1, by omega, by simp, HB2.out, all_take HM.out HA.out (by rw [HP1.out]; unfold segO; rw [seg_box hmr.1 (by omega)]; rfl)⟩
                  case measure => simp [intOf]; omega
                · have HH := hide (And.intro h1 h2)
                  go_upto_region 12 with fail
                  clear a1 a2 a3 a4 h1 h2
                  go_wp2_with fail
                  refine (segDisc_any _ o.x o.y t.x t.y m.x m.y m.r HOK.out.1.x HOK.out.1.y HOK.out.2.x HOK.out.2.y HOm.out.x HOm.out.y HOm.out.r).mono ?_
                  rintro e w5 ⟨rfl, b5⟩
                  have HB5 := hide (lec HB2.out b5)
                  clear b5 x2 x3 y2 y3 d0 d1 d2
                  cases hseg : segP o.x o.y t.x t.y m.x m.y m.r
                  · go_wp2
                    go_roundw
                    case rel => exact ⟨i + 1, by omega, by simp, HB5.out, all_take HM.out HA.out (by rw [HP1.out]; unfold segO; rw [hseg]; rfl)⟩
                    case measure => simp [intOf]; omega
                  · go_wp2
                    go_ret
                    refine ⟨ret_bool ?_, lec HE.out HB5.out⟩
                    symm
                    rw [List.all_eq_false]
                    exact ⟨m, List.mem_of_getElem? HM.out, by rw [HP1.out]; unfold segO; rw [hseg]; simp⟩
        · obtain rfl : i = n := by omega
          go_wp2
          go_ret
          refine ⟨ret_bool ?_, lec HE.out HB.out⟩
          symm
          rw [List.all_eq_true]
          intro m hm
          obtain ⟨j, hj, rfl⟩ := List.getElem_of_mem hm
          exact HA.out j _ (by have := HN.out; omega) (List.getElem?_eq_getElem hj)
  · by_cases h2 : t.y < o.y
    · go_quiet (fail)
      go_upto_region 4 with fail
      go_quiet (fail)
      go_upto_region 7 with fail
      rename_i nq
      clear x2 x3 y2 y3
      go_wp2
      go_loopw [11] (fun si wr => ∃ i : Nat, i ≤ n ∧ si = .int .i64 i ∧ Below w1.heap.size w1 wr ∧ ∀ (j : Nat) (x : Smk), j < i → M[j]? = some x → P x = true) (fun si _ => n - (intOf si).toNat)
      case atStart => exact ⟨0, by omega, rfl, belN _ _, fun j x hj => by omega⟩
      case round =>
        obtain ⟨i, hi, rfl, hbel, hal⟩ := hrel
        have HA := hide hal
        have HB := hide hbel
        have z3 := (HC.out.below hbel).c 1714 (by omega)
        rw [HV.out] at z3
        clear hal hbel
        by_cases hlt : i < n
        · have hlti : (i : Int) < (n : Int) := by omega
          obtain ⟨m, hm⟩ : ∃ m, M[i]? = some m := ⟨_, List.getElem?_eq_getElem (by have := HN.out; omega)⟩
          obtain ⟨g, c, e1⟩ := own_some (HR.out.below HB.out).row (by have := HN.out; omega)
          rw [HN.out, HVV.out] at e1
          cases e1
          have hrow := HR.out.below HB.out
          rw [HVV.out] at hrow
          obtain ⟨k0, k1, k2⟩ := hrow.at HN.out.symm hm
          have hok := HR.out.mo m (List.mem_of_getElem? hm)
          have HM := hide hm
          have hmx := hok.x
          have hmy := hok.y
          have hmr := hok.r
          have HOm := hide hok
          unfold OnM at hmx hmy
          clear hm hok hrow
          go_upto_region 11 with fail
          have d0 : (wr.alloc (.cells #[.int .i64 m.x, .int .i64 m.y, .int .i64 m.r] 52)).cell? ⟨wr.heap.size, 0, none⟩ = some (.int .i64 m.x) := by simp [go_sem]
          have d1 : (wr.alloc (.cells #[.int .i64 m.x, .int .i64 m.y, .int .i64 m.r] 52)).cell? ⟨wr.heap.size, 1, none⟩ = some (.int .i64 m.y) := by simp [go_sem]
          have d2 : (wr.alloc (.cells #[.int .i64 m.x, .int .i64 m.y, .int .i64 m.r] 52)).cell? ⟨wr.heap.size, 2, none⟩ = some (.int .i64 m.r) := by simp [go_sem]
          have HB2 := hide (lec HB.out (be1 wr (.cells #[.int .i64 m.x, .int .i64 m.y, .int .i64 m.r] 52)))
          have HP1 := hide (show P m = !segO o t m by rw [← HP.out])
          generalize wr.alloc (.cells #[.int .i64 m.x, .int .i64 m.y, .int .i64 m.r] 52) = wd at *
          obtain ⟨p, hp⟩ : ∃ p, wr.heap.size = p := ⟨_, rfl⟩
          rw [hp] at d0 d1 d2 ⊢
          have x2 := (HX.out.below HB2.out).c2
          have x3 := (HX.out.below HB2.out).c3
          have y2 := (HY.out.below HB2.out).c2
          have y3 := (HY.out.below HB2.out).c3
          clear hp z3 k0 k1 k2 HB
          by_cases a1 : m.x + m.r < o.x
          · go_wp2
            go_roundw
            case rel => exact ⟨i + 1, by omega, by simp, HB2.out, all_take HM.out HA.out (by rw [HP1.out]; unfold segO; rw [seg_box hmr.1 (by omega)]; rfl)⟩
            case measure => simp [intOf]; omega
          · by_cases a2 : t.x < m.x - m.r
            · go_wp2
              go_roundw
              case rel => exact ⟨i + 1, by omega, by simp, HB2.out, all_take HM.out HA.out (by rw [HP1.out]; unfold segO; rw [seg_box hmr.1 (by omega)]; rfl)⟩
              case measure => simp [intOf]; omega
            · by_cases a3 : m.y + m.r < t.y
              · go_wp2
                go_roundw
                case rel => exact ⟨i + 1, by omega, by simp, HB2.out, all_take HM.out HA.out (by rw [HP1.out]; unfold segO; rw [seg_box hmr.1 (by omega)]; rfl)⟩
                case measure => simp [intOf]; omega
              · by_cases a4 : o.y < m.y - m.r
                · go_wp2
                  go_roundw
                  case rel => exact ⟨i + 1, by omega, by simp, HB2.out, all_take HM.out HA.out (by rw [HP1.out]; unfold segO; rw [seg_box hmr.1 (by omega)]; rfl)⟩
                  case measure => simp [intOf]; omega
                · have HH := hide (And.intro h1 h2)
                  go_upto_region 12 with fail
                  clear a1 a2 a3 a4 h1 h2
                  go_wp2_with fail
                  refine (segDisc_any _ o.x o.y t.x t.y m.x m.y m.r HOK.out.1.x HOK.out.1.y HOK.out.2.x HOK.out.2.y HOm.out.x HOm.out.y HOm.out.r).mono ?_
                  rintro e w5 ⟨rfl, b5⟩
                  have HB5 := hide (lec HB2.out b5)
                  clear b5 x2 x3 y2 y3 d0 d1 d2
                  cases hseg : segP o.x o.y t.x t.y m.x m.y m.r
                  · go_wp2
                    go_roundw
                    case rel => exact ⟨i + 1, by omega, by simp, HB5.out, all_take HM.out HA.out (by rw [HP1.out]; unfold segO; rw [hseg]; rfl)⟩
                    case measure => simp [intOf]; omega
                  · go_wp2
                    go_ret
                    refine ⟨ret_bool ?_, lec HE.out HB5.out⟩
                    symm
                    rw [List.all_eq_false]
                    exact ⟨m, List.mem_of_getElem? HM.out, by rw [HP1.out]; unfold segO; rw [hseg]; simp⟩
        · obtain rfl : i = n := by omega
          go_wp2
          go_ret
          refine ⟨ret_bool ?_, lec HE.out HB.out⟩
          symm
          rw [List.all_eq_true]
          intro m hm
          obtain ⟨j, hj, rfl⟩ := List.getElem_of_mem hm
          exact HA.out j _ (by have := HN.out; omega) (List.getElem?_eq_getElem hj)
    · go_quiet (fail)
      go_upto_region 4 with fail
      go_quiet (fail)
      go_upto_region 7 with fail
      rename_i nq
      clear x2 x3 y2 y3
      go_wp2
      go_loopw [11] (fun si wr => ∃ i : Nat, i ≤ n ∧ si = .int .i64 i ∧ Below w1.heap.size w1 wr ∧ ∀ (j : Nat) (x : Smk), j < i → M[j]? = some x → P x = true) (fun si _ => n - (intOf si).toNat)
      case atStart => exact ⟨0, by omega, rfl, belN _ _, fun j x hj => by omega⟩
      case round =>
        obtain ⟨i, hi, rfl, hbel, hal⟩ := hrel
        have HA := hide hal
        have HB := hide hbel
        have z3 := (HC.out.below hbel).c 1714 (by omega)
        rw [HV.out] at z3
        clear hal hbel
        by_cases hlt : i < n
        · have hlti : (i : Int) < (n : Int) := by omega
          obtain ⟨m, hm⟩ : ∃ m, M[i]? = some m := ⟨_, List.getElem?_eq_getElem (by have := HN.out; omega)⟩
          obtain ⟨g, c, e1⟩ := own_some (HR.out.below HB.out).row (by have := HN.out; omega)
          rw [HN.out, HVV.out] at e1
          cases e1
          have hrow := HR.out.below HB.out
          rw [HVV.out] at hrow
          obtain ⟨k0, k1, k2⟩ := hrow.at HN.out.symm hm
          have hok := HR.out.mo m (List.mem_of_getElem? hm)
          have HM := hide hm
          have hmx := hok.x
          have hmy := hok.y
          have hmr := hok.r
          have HOm := hide hok
          unfold OnM at hmx hmy
          clear hm hok hrow
          go_upto_region 11 with fail
          have d0 : (wr.alloc (.cells #[.int .i64 m.x, .int .i64 m.y, .int .i64 m.r] 52)).cell? ⟨wr.heap.size, 0, none⟩ = some (.int .i64 m.x) := by simp [go_sem]
          have d1 : (wr.alloc (.cells #[.int .i64 m.x, .int .i64 m.y, .int .i64 m.r] 52)).cell? ⟨wr.heap.size, 1, none⟩ = some (.int .i64 m.y) := by simp [go_sem]
          have d2 : (wr.alloc (.cells #[.int .i64 m.x, .int .i64 m.y, .int .i64 m.r] 52)).cell? ⟨wr.heap.size, 2, none⟩ = some (.int .i64 m.r) := by simp [go_sem]
          have HB2 := hide (lec HB.out (be1 wr (.cells #[.int .i64 m.x, .int .i64 m.y, .int .i64 m.r] 52)))
          have HP1 := hide (show P m = !segO o t m by rw [← HP.out])
          generalize wr.alloc (.cells #[.int .i64 m.x, .int .i64 m.y, .int .i64 m.r] 52) = wd at *
          obtain ⟨p, hp⟩ : ∃ p, wr.heap.size = p := ⟨_, rfl⟩
          rw [hp] at d0 d1 d2 ⊢
          have x2 := (HX.out.below HB2.out).c2
          have x3 := (HX.out.below HB2.out).c3
          have y2 := (HY.out.below HB2.out).c2
          have y3 := (HY.out.below HB2.out).c3
          clear hp z3 k0 k1 k2 HB
          by_cases a1 : m.x + m.r < o.x
          · go_wp2
            go_roundw
            case rel => exact ⟨i + 1, by omega, by simp, HB2.out, all_take HM.out HA.out (by rw [HP1.out]; unfold segO; rw [seg_box hmr.1 (by omega)]; rfl)⟩
            case measure => simp [intOf]; omega
          · by_cases a2 : t.x < m.x - m.r
            · go_wp2
              go_roundw
              case rel => exact ⟨i + 1, by omega, by simp, HB2.out, all_take HM.out HA.out (by rw [HP1.out]; unfold segO; rw [seg_box hmr.1 (by omega)]; rfl)⟩
              case measure => simp [intOf]; omega
            · by_cases a3 : m.y + m.r < o.y
              · go_wp2
                go_roundw
                case rel => exact ⟨i + 1, by omega, by simp, HB2.out, all_take HM.out HA.out (by rw [HP1.out]; unfold segO; rw [seg_box hmr.1 (by omega)]; rfl)⟩
                case measure => simp [intOf]; omega
              · by_cases a4 : t.y < m.y - m.r
                · go_wp2
                  go_roundw
                  case rel => exact ⟨i + 1, by omega, by simp, HB2.out, all_take HM.out HA.out (by rw [HP1.out]; unfold segO; rw [seg_box hmr.1 (by omega)]; rfl)⟩
                  case measure => simp [intOf]; omega
                · have HH := hide (And.intro h1 h2)
                  go_upto_region 12 with fail
                  clear a1 a2 a3 a4 h1 h2
                  go_wp2_with fail
                  refine (segDisc_any _ o.x o.y t.x t.y m.x m.y m.r HOK.out.1.x HOK.out.1.y HOK.out.2.x HOK.out.2.y HOm.out.x HOm.out.y HOm.out.r).mono ?_
                  rintro e w5 ⟨rfl, b5⟩
                  have HB5 := hide (lec HB2.out b5)
                  clear b5 x2 x3 y2 y3 d0 d1 d2
                  cases hseg : segP o.x o.y t.x t.y m.x m.y m.r
                  · go_wp2
                    go_roundw
                    case rel => exact ⟨i + 1, by omega, by simp, HB5.out, all_take HM.out HA.out (by rw [HP1.out]; unfold segO; rw [hseg]; rfl)⟩
                    case measure => simp [intOf]; omega
                  · go_wp2
                    go_ret
                    refine ⟨ret_bool ?_, lec HE.out HB5.out⟩
                    symm
                    rw [List.all_eq_false]
                    exact ⟨m, List.mem_of_getElem? HM.out, by rw [HP1.out]; unfold segO; rw [hseg]; simp⟩
        · obtain rfl : i = n := by omega
          go_wp2
          go_ret
          refine ⟨ret_bool ?_, lec HE.out HB.out⟩
          symm
          rw [List.all_eq_true]
          intro m hm
          obtain ⟨j, hj, rfl⟩ := List.getElem_of_mem hm
          exact HA.out j _ (by have := HN.out; omega) (List.getElem?_eq_getElem hj)
end Go.Proofs.Qxb6500776a
