import Derived.Test.Qxb6500778aUK
namespace Go.Proofs.Qxb6500778a
open Go.RowKit

/-- what a step of the model's session does -/
def QPost (w : World) (s : Nat) (vr va ur ua : Nat → Value) (sv : Value) (F : Nat → Prop) (R : SM × Ans) (e : Ending) (w' : World) : Prop :=
  e = .returned (ansV R.2.e R.2.t R.2.x) ∧ Ex (fun k => k = s ∨ F k) w w' ∧ ∃ vr' va' ur' ua' sv', SQ w' s R.1 vr' va' ur' ua' sv' ∧ (∀ k, RIn vr' va' k → RIn vr va k ∨ RIn ur ua k ∨ w.heap.size ≤ k) ∧ (∀ k, RIn ur' ua' k → RIn vr va k ∨ RIn ur ua k ∨ w.heap.size ≤ k) ∧ (∀ k, sv'.ownBlock = some k → sv.ownBlock = some k ∨ w.heap.size ≤ k)
set_option linter.unusedSimpArgs false in
set_option maxRecDepth 100000 in
set_option maxHeartbeats 16000000 in
/-- configm.Session.apply -/
theorem applyQ_any (w : World) (s B0 : Nat) (y : SM) (vr va ur ua : Nat → Value) (sv : Value) (id : Int) (v : Value) (C : List Chg) (h : SQ w s y vr va ur ua sv) (ho : w.ownsRow B0 45 9 v C.length (flatC C)) (hlen : C.length ≤ 1099511627776) :
    Calls Try.prog 26 #[.pointer (some ⟨s, 0, none⟩), .agg #[.int .i64 id, v]] w (QPost w s vr va ur ua sv (fun _ => False) (applyM y id C)) := by
  obtain ⟨sa, sc, rfl⟩ := own_len ho
  obtain ⟨n, hn⟩ : ∃ n, C.length = n := ⟨_, rfl⟩
  obtain ⟨h1, h2, h3, h4⟩ := two_new w [.int .i64 id, .slice sa C.length sc] [.int .i64 0, .int .i64 0, .string ⟨#[]⟩] 52 40
  have c0 := h1 0 _ rfl
  have c1 := h1 1 _ rfl
  have d0 := h2 0 _ rfl
  have d1 := h2 1 _ rfl
  have d2 := h2 2 _ rfl
  have HDF : Hid (∀ j, ((w.alloc (.cells #[.int .i64 id, .slice sa C.length sc] 52)).alloc (.cells #[.int .i64 0, .int .i64 0, .string ⟨#[]⟩] 40)).frozen? ⟨w.heap.size + 1, j, none⟩ = false) := fun j => by simp [go_sem]
  have HE := hide h4
  have HS := hide (h.new h4)
  have HO := hide (own_kept ho h4 (fun _ _ e => e))
  have hsl := h.lt
  have HLT : Hid ((∀ k, RIn vr va k → k < w.heap.size) ∧ (∀ k, RIn ur ua k → k < w.heap.size) ∧ ∀ k, sv.ownBlock = some k → k < w.heap.size) := ⟨fun k hk => h.now.mv.rlt hk, fun k hk => h.bef.mv.rlt hk, fun k hk => (h.sto.lt k hk).2⟩
  clear h1 h2 h3 h4 h ho
  have HCALL : Hid (∀ X, Ex (fun _ => False) ((w.alloc (.cells #[.int .i64 id, .slice sa C.length sc] 52)).alloc (.cells #[.int .i64 0, .int .i64 0, .string ⟨#[]⟩] 40)) X → Calls Try.prog 49 #[.agg (mnC y.now vr va).toArray, .agg #[.int .i64 id, .slice sa C.length sc]] X (MApPost X vr va (mapply y.now id C))) := fun X e => applyM_any X y.now vr va B0 id _ C (HS.out.now.mv.new e) HS.out.nok (own_kept HO.out e (fun _ _ e => e)) hlen
  have HMO : Hid (MOk (mapply y.now id C).1) := mapply_ok HS.out.nok id C
  have HAM : Hid (applyM y id C = if (mapply y.now id C).2.1 = 0 then (⟨(mapply y.now id C).1, y.st, y.now, true⟩, ⟨0, 0, ⟨#[]⟩⟩) else (y, ⟨(mapply y.now id C).2.1, (mapply y.now id C).2.2, ⟨#[]⟩⟩)) := rfl
  obtain ⟨M2, er, at_, hR⟩ : ∃ a b c, mapply y.now id C = (a, b, c) := ⟨_, _, _, rfl⟩
  rw [hR] at HCALL HMO HAM
  simp only [] at HCALL HMO HAM
  obtain ⟨AP, hAP⟩ : ∃ a, applyM y id C = a := ⟨_, rfl⟩
  rw [hAP] at HAM ⊢
  rw [hn] at HCALL c0 c1 d0 d1 d2 HDF HE HS HO ⊢
  clear hR hlen hAP hn
  have HLN := hide (mnC_len y.now vr va)
  have HRG := hide HS.out.now.range
  obtain ⟨cs, hcs⟩ : ∃ cs, mnC y.now vr va = cs := ⟨_, rfl⟩
  rw [hcs] at HCALL HLN HRG
  have HCS := hide hcs
  clear hcs
  go_enter Try.func26, Try.ntmps26
  go_upto_region 1 with fail
  generalize (w.alloc (.cells #[.int .i64 id, .slice sa n sc] 52)).alloc (.cells #[.int .i64 0, .int .i64 0, .string ⟨#[]⟩] 40) = W at *
  obtain ⟨r1, hr1⟩ : ∃ r, w.heap.size + 1 = r := ⟨_, rfl⟩
  rw [hr1] at d0 d1 d2 HDF ⊢
  obtain ⟨rb, hrb⟩ : ∃ r, w.heap.size = r := ⟨_, rfl⟩
  have hrs : ¬ r1 = s := by omega
  have hrbs : ¬ rb = s := by omega
  have HR1 : Hid (w.heap.size < r1) := by show _ < _; omega
  rw [hrb] at c0 c1 ⊢
  have hr1W : r1 < W.heap.size := World.block_lt_of_cell? _ _ d0
  have hrbW : rb < W.heap.size := World.block_lt_of_cell? _ _ c0
  clear hrb hr1
  have HD0 := hide d0
  have HD1 := hide d1
  have HD2 := hide d2
  clear d0 d1 d2
  go_cut [5, 6, 7] (fun s5 s6 s7 wx => ∃ (p : Nat) (xr xa : Nat → Value), s5 = .pointer (some ⟨p, 0, none⟩) ∧ s6 = .int .i64 er ∧ s7 = .int .i64 at_ ∧ Hid (Ex (fun _ => False) W wx) ∧ Hid (W.heap.size ≤ p) ∧ Hid (wx.rangeAt p 0 (mnC M2 xr xa)) ∧ Hid (MV wx M2 xr xa) ∧ Hid (∀ k, RIn xr xa k → RIn vr va k ∨ W.heap.size ≤ k))
  case first =>
    refine wp_region_held_drew (S := fun w' => w'.rangeAt s 0 cs ∧ w'.cell? ⟨rb, 0, none⟩ = some (.int .i64 id) ∧ w'.cell? ⟨rb, 1, none⟩ = some (.slice sa n sc)) (by kernel_rfl) (And.intro HRG.out (And.intro c0 c1)) (fun hHeld => ?_)
    refine wpAnyH_take (i := 0) (v := ?_) rfl (by kernel_rfl) (by kernel_rfl) (by kernel_rfl) (fun _ _ _ h => h) (Or.inl ⟨by rfl, ?_⟩) (by assumption) ?_
    rotate_left
    · (intro w hSw; (try dsimp only at hSw); go_simp; try (with_reducible rfl))
    try simp only [Act.put, List.getElem_toArray, List.getElem_cons_zero, List.getElem_cons_succ, List.setIfInBounds_toArray, List.set_cons_zero, List.set_cons_succ]
    refine wpAnyH_take (i := 1) (v := ?_) rfl (by kernel_rfl) (by kernel_rfl) (by kernel_rfl) (fun _ _ _ h => h) (Or.inl ⟨by rfl, ?_⟩) (by assumption) ?_
    rotate_left
    · (intro w hSw; (try dsimp only at hSw); go_simp; try (with_reducible rfl))
    try simp only [Act.put, List.getElem_toArray, List.getElem_cons_zero, List.getElem_cons_succ, List.setIfInBounds_toArray, List.set_cons_zero, List.set_cons_succ]
    refine wpAnyH_take (i := 2) (v := ?_) rfl (by kernel_rfl) (by kernel_rfl) (by kernel_rfl) (fun _ _ _ h => h) (Or.inl ⟨by rfl, ?_⟩) (by assumption) ?_
    rotate_left
    · (intro w hSw; (try dsimp only at hSw); go_simp; try (with_reducible rfl))
    try simp only [Act.put, List.getElem_toArray, List.getElem_cons_zero, List.getElem_cons_succ, List.setIfInBounds_toArray, List.set_cons_zero, List.set_cons_succ]
    refine wpAnyH_take (i := 3) (v := .agg cs.toArray) rfl (by kernel_rfl) (by kernel_rfl) (by kernel_rfl) (fun _ _ _ h => h) (yieldsIf_load_mid (by rfl) 34 (.tmp 11) rfl s 0 rfl cs _ (fun w h => h.1) Try.underlying34 rfl (by rw [HLN.out]; exact Try.sz34)) (by assumption) ?_
    try simp only [Act.put, List.getElem_toArray, List.getElem_cons_zero, List.getElem_cons_succ, List.setIfInBounds_toArray, List.set_cons_zero, List.set_cons_succ]
    refine wpAnyH_take (i := 4) (v := ?_) rfl (by kernel_rfl) (by kernel_rfl) (by kernel_rfl) (fun _ _ _ h => h) (Or.inl ⟨by rfl, ?_⟩) (by assumption) ?_
    rotate_left
    · (intro w hSw; (try dsimp only at hSw); go_simp; try (with_reducible rfl))
    try simp only [Act.put, List.getElem_toArray, List.getElem_cons_zero, List.getElem_cons_succ, List.setIfInBounds_toArray, List.set_cons_zero, List.set_cons_succ]
    refine wpAnyH_ready (rs := [5, 10]) (by kernel_rfl) (by simp) ?_
    refine (AllReadyH.cons rfl (fun K hK => ?_) (AllReadyH.cons rfl (fun K hK => ?_) AllReadyH.nil))
    · refine step_call rfl 49 #[.agg cs.toArray, .agg #[.int .i64 id, .slice sa n sc]] (by simp [go_sem]) (HCALL.out _ (by first | exact (Ex.refl _ W).drew | exact ((Ex.refl _ W).alloc _).drew | exact ((Ex.refl _ W).drew).alloc _)) ?_
      rintro e w6 ⟨xr, xa, rfl, hex6, hmv6, hri6⟩
      refine ⟨_, rfl, ?_⟩
      have HEX6 := hide hex6
      have HMV6 := hide hmv6
      have HRI6 := hide hri6
      have HLM := hide (mnC_len M2 xr xa)
      have HOM := hide hmv6.one
      obtain ⟨ms, hms⟩ : ∃ ms, mnC M2 xr xa = ms := ⟨_, rfl⟩
      rw [hms] at HLM HOM
      simp only [hms]
      have HMS := hide hms
      clear hms hmv6 hri6
      refine hK.out _ _ ?_ (fun hHeld => ?_)
      · first | exact hHeld | exact ⟨fun j u hj => ((Ex.refl (fun _ => False) _).alloc _).cell (fun e => e) (hHeld.1 j u hj), ((Ex.refl (fun _ => False) _).alloc _).cell (fun e => e) hHeld.2.1, ((Ex.refl (fun _ => False) _).alloc _).cell (fun e => e) hHeld.2.2⟩ | exact ⟨fun j u hj => HEX6.out.cell (fun e => e) (hHeld.1 j u hj), HEX6.out.cell (fun e => e) hHeld.2.1, HEX6.out.cell (fun e => e) hHeld.2.2⟩ | exact ⟨fun j u hj => (exC _).cell (by have := HEX6.out.size; have := HS.out.lt; simp [go_sem] at *; omega) (hHeld.1 j u hj), (exC _).cell (by have := HEX6.out.size; simp [go_sem] at *; omega) hHeld.2.1, (exC _).cell (by have := HEX6.out.size; simp [go_sem] at *; omega) hHeld.2.2⟩
      clear hK K
      try simp only [Act.put, List.getElem_toArray, List.getElem_cons_zero, List.getElem_cons_succ, List.setIfInBounds_toArray, List.set_cons_zero, List.set_cons_succ]
      refine wpAnyH_take (i := 6) (v := ?_) rfl (by kernel_rfl) (by kernel_rfl) (by kernel_rfl) (fun _ _ _ h => h) (Or.inl ⟨by rfl, ?_⟩) (by assumption) ?_
      rotate_left
      · (intro w hSw; (try dsimp only at hSw); go_simp; try (with_reducible rfl))
      try simp only [Act.put, List.getElem_toArray, List.getElem_cons_zero, List.getElem_cons_succ, List.setIfInBounds_toArray, List.set_cons_zero, List.set_cons_succ]
      refine wpAnyH_take (i := 7) (v := ?_) rfl (by kernel_rfl) (by kernel_rfl) (by kernel_rfl) (fun _ _ _ h => h) (Or.inl ⟨by rfl, ?_⟩) (by assumption) ?_
      rotate_left
      · (intro w hSw; (try dsimp only at hSw); go_simp; try (with_reducible rfl))
      try simp only [Act.put, List.getElem_toArray, List.getElem_cons_zero, List.getElem_cons_succ, List.setIfInBounds_toArray, List.set_cons_zero, List.set_cons_succ]
      refine wpAnyH_take (i := 8) (v := ?_) rfl (by kernel_rfl) (by kernel_rfl) (by kernel_rfl) (fun _ _ _ h => h) (Or.inl ⟨by rfl, ?_⟩) (by assumption) ?_
      rotate_left
      · (intro w hSw; (try dsimp only at hSw); go_simp; try (with_reducible rfl))
      try simp only [Act.put, List.getElem_toArray, List.getElem_cons_zero, List.getElem_cons_succ, List.setIfInBounds_toArray, List.set_cons_zero, List.set_cons_succ]
      refine wpAnyH_take (i := 9) (v := ?_) rfl (by kernel_rfl) (by kernel_rfl) (by kernel_rfl) (fun _ _ _ h => h) (Or.inl ⟨by rfl, ?_⟩) (by assumption) ?_
      rotate_left
      · (intro w hSw; (try dsimp only at hSw); go_simp; try (with_reducible rfl))
      try simp only [Act.put, List.getElem_toArray, List.getElem_cons_zero, List.getElem_cons_succ, List.setIfInBounds_toArray, List.set_cons_zero, List.set_cons_succ]
      refine wpAnyH_ready (rs := [10]) (by kernel_rfl) (by simp) ?_
      refine (AllReadyH.cons rfl (fun K hK => ?_) AllReadyH.nil)
      · go_simp
        refine hK.out _ _ ?_ (fun hHeld => ?_)
        · first | exact hHeld | exact ⟨fun j u hj => ((Ex.refl (fun _ => False) _).alloc _).cell (fun e => e) (hHeld.1 j u hj), ((Ex.refl (fun _ => False) _).alloc _).cell (fun e => e) hHeld.2.1, ((Ex.refl (fun _ => False) _).alloc _).cell (fun e => e) hHeld.2.2⟩ | exact ⟨fun j u hj => HEX6.out.cell (fun e => e) (hHeld.1 j u hj), HEX6.out.cell (fun e => e) hHeld.2.1, HEX6.out.cell (fun e => e) hHeld.2.2⟩ | exact ⟨fun j u hj => (exC _).cell (by have := HEX6.out.size; have := HS.out.lt; simp [go_sem] at *; omega) (hHeld.1 j u hj), (exC _).cell (by have := HEX6.out.size; simp [go_sem] at *; omega) hHeld.2.1, (exC _).cell (by have := HEX6.out.size; simp [go_sem] at *; omega) hHeld.2.2⟩
        clear hK K
        try simp only [Act.put, List.getElem_toArray, List.getElem_cons_zero, List.getElem_cons_succ, List.setIfInBounds_toArray, List.set_cons_zero, List.set_cons_succ]
        refine wpAnyH_ready (rs := [11]) (by kernel_rfl) (by simp) ?_
        refine (AllReadyH.cons rfl (fun K hK => ?_) AllReadyH.nil)
        · first
            | refine step_storeM rfl 34 (.tmp 5) (.tmp 15) rfl W.heap.size 0 ms rfl rfl (by rw [HLM.out]; exact there_keep (S := fun _ => False) (there_keep (S := fun _ => False) (new_there W Try.zeroCells34 34 304 Try.zs34) ((Ex.refl _ _).drew) (fun e => e)) HEX6.out (fun e => e)) (by rw [HLM.out]; exact Try.sz34) HOM.out ?_
            | refine step_storeM rfl 34 (.tmp 5) (.tmp 15) rfl w6.heap.size 0 ms rfl rfl (by rw [HLM.out]; exact new_there w6 Try.zeroCells34 34 304 Try.zs34) (by rw [HLM.out]; exact Try.sz34) HOM.out ?_
          refine hK.out _ _ ?_ (fun hHeld => ?_)
          · first | exact hHeld | exact ⟨fun j u hj => ((Ex.refl (fun _ => False) _).alloc _).cell (fun e => e) (hHeld.1 j u hj), ((Ex.refl (fun _ => False) _).alloc _).cell (fun e => e) hHeld.2.1, ((Ex.refl (fun _ => False) _).alloc _).cell (fun e => e) hHeld.2.2⟩ | exact ⟨fun j u hj => HEX6.out.cell (fun e => e) (hHeld.1 j u hj), HEX6.out.cell (fun e => e) hHeld.2.1, HEX6.out.cell (fun e => e) hHeld.2.2⟩ | exact ⟨fun j u hj => (exC _).cell (by have := HEX6.out.size; have := HS.out.lt; simp [go_sem] at *; omega) (hHeld.1 j u hj), (exC _).cell (by have := HEX6.out.size; simp [go_sem] at *; omega) hHeld.2.1, (exC _).cell (by have := HEX6.out.size; simp [go_sem] at *; omega) hHeld.2.2⟩
          clear hK K
          try simp only [Act.put, List.getElem_toArray, List.getElem_cons_zero, List.getElem_cons_succ, List.setIfInBounds_toArray, List.set_cons_zero, List.set_cons_succ]
          refine wpAnyH_take (i := 12) (v := ?_) rfl (by kernel_rfl) (by kernel_rfl) (by kernel_rfl) (fun _ _ _ h => h) (Or.inl ⟨by rfl, ?_⟩) (by assumption) ?_
          rotate_left
          · (intro w hSw; (try dsimp only at hSw); go_simp; try (with_reducible rfl))
          try simp only [Act.put, List.getElem_toArray, List.getElem_cons_zero, List.getElem_cons_succ, List.setIfInBounds_toArray, List.set_cons_zero, List.set_cons_succ]
          refine wpAnyH_take (i := 13) (v := ?_) rfl (by kernel_rfl) (by kernel_rfl) (by kernel_rfl) (fun _ _ _ h => h) (Or.inl ⟨by rfl, ?_⟩) (by assumption) ?_
          rotate_left
          · (intro w hSw; (try dsimp only at hSw); go_simp; try (with_reducible rfl))
          try simp only [Act.put, List.getElem_toArray, List.getElem_cons_zero, List.getElem_cons_succ, List.setIfInBounds_toArray, List.set_cons_zero, List.set_cons_succ]
          refine wpAnyH_done (by kernel_rfl) ?_ _
          clear hHeld
          first
            | (have hsz : W.heap.size ≤ w6.heap.size := HEX6.out.size
               have HEW : Hid (Ex (fun _ => False) W ((w6.alloc (.cells Try.zeroCells34 34)).setCells w6.heap.size 0 ms)) := ((Ex.of_drew HEX6.out).alloc _).trans2 (exC ms) (fun k hk => .inr (by have hk : k = w6.heap.size := hk; omega))
               have HRP : Hid (((w6.alloc (.cells Try.zeroCells34 34)).setCells w6.heap.size 0 ms).rangeAt w6.heap.size 0 (mnC M2 xr xa)) := by
                 show World.rangeAt _ _ _ _
                 rw [HMS.out]
                 exact World.rangeAt_setCells_same _ _ 0 ms (by rw [HLM.out]; exact new_there w6 Try.zeroCells34 34 304 Try.zs34)
               have HMV7 : Hid (MV ((w6.alloc (.cells Try.zeroCells34 34)).setCells w6.heap.size 0 ms) M2 xr xa) := (HMV6.out.new ((Ex.refl (fun _ => False) w6).alloc _)).keepR (exC ms) (fun k hk z => by have z : k = w6.heap.size := z; have := HMV6.out.rlt hk; omega)
               go_wp2
               go_meet
               case rel => exact ⟨w6.heap.size, xr, xa, rfl, rfl, rfl, HEW, hsz, HRP, HMV7, HRI6⟩)
            | (have HEW : Hid (Ex (fun _ => False) W (w6.setCells W.heap.size 0 ms)) := (((Ex.refl (fun _ => False) W).alloc _).drew.trans HEX6.out).trans2 (exC ms) (fun k hk => .inr (by have hk : k = W.heap.size := hk; omega))
               have HRP : Hid ((w6.setCells W.heap.size 0 ms).rangeAt W.heap.size 0 (mnC M2 xr xa)) := by
                 show World.rangeAt _ _ _ _
                 rw [HMS.out]
                 exact World.rangeAt_setCells_same _ _ 0 ms (by rw [HLM.out]; exact there_keep (S := fun _ => False) (there_keep (S := fun _ => False) (new_there W Try.zeroCells34 34 304 Try.zs34) ((Ex.refl _ _).drew) (fun e => e)) HEX6.out (fun e => e))
               have HNE : Hid (∀ k, RIn xr xa k → RIn vr va k ∨ W.heap.size < k) := fun k hk => by
                 rcases HRI6.out k hk with z | z
                 · exact .inl z
                 · right; simp [go_sem] at z; omega
               have HMV7 : Hid (MV (w6.setCells W.heap.size 0 ms) M2 xr xa) := HMV6.out.keepR (exC ms) (fun k hk z => by
                 have z : k = W.heap.size := z
                 rcases HNE.out k hk with q | q
                 · have := HS.out.now.mv.rlt q; omega
                 · omega)
               go_wp2
               go_meet
               case rel => exact ⟨W.heap.size, xr, xa, rfl, rfl, rfl, HEW, hide (Nat.le_refl _), HRP, HMV7, fun k hk => by
                 rcases HNE.out k hk with q | q
                 · exact .inl q
                 · exact .inr (Nat.le_of_lt q)⟩)
    · go_simp
      refine hK.out _ _ ?_ (fun hHeld => ?_)
      · first | exact hHeld | exact ⟨fun j u hj => ((Ex.refl (fun _ => False) _).alloc _).cell (fun e => e) (hHeld.1 j u hj), ((Ex.refl (fun _ => False) _).alloc _).cell (fun e => e) hHeld.2.1, ((Ex.refl (fun _ => False) _).alloc _).cell (fun e => e) hHeld.2.2⟩ | exact ⟨fun j u hj => HEX6.out.cell (fun e => e) (hHeld.1 j u hj), HEX6.out.cell (fun e => e) hHeld.2.1, HEX6.out.cell (fun e => e) hHeld.2.2⟩ | exact ⟨fun j u hj => (exC _).cell (by have := HEX6.out.size; have := HS.out.lt; simp [go_sem] at *; omega) (hHeld.1 j u hj), (exC _).cell (by have := HEX6.out.size; simp [go_sem] at *; omega) hHeld.2.1, (exC _).cell (by have := HEX6.out.size; simp [go_sem] at *; omega) hHeld.2.2⟩
      clear hK K
      try simp only [Act.put, List.getElem_toArray, List.getElem_cons_zero, List.getElem_cons_succ, List.setIfInBounds_toArray, List.set_cons_zero, List.set_cons_succ]
      refine wpAnyH_ready (rs := [5]) (by kernel_rfl) (by simp) ?_
      refine (AllReadyH.cons rfl (fun K hK => ?_) AllReadyH.nil)
      · refine step_call rfl 49 #[.agg cs.toArray, .agg #[.int .i64 id, .slice sa n sc]] (by simp [go_sem]) (HCALL.out _ (by first | exact (Ex.refl _ W).drew | exact ((Ex.refl _ W).alloc _).drew | exact ((Ex.refl _ W).drew).alloc _)) ?_
        rintro e w6 ⟨xr, xa, rfl, hex6, hmv6, hri6⟩
        refine ⟨_, rfl, ?_⟩
        have HEX6 := hide hex6
        have HMV6 := hide hmv6
        have HRI6 := hide hri6
        have HLM := hide (mnC_len M2 xr xa)
        have HOM := hide hmv6.one
        obtain ⟨ms, hms⟩ : ∃ ms, mnC M2 xr xa = ms := ⟨_, rfl⟩
        rw [hms] at HLM HOM
        simp only [hms]
        have HMS := hide hms
        clear hms hmv6 hri6
        refine hK.out _ _ ?_ (fun hHeld => ?_)
        · first | exact hHeld | exact ⟨fun j u hj => ((Ex.refl (fun _ => False) _).alloc _).cell (fun e => e) (hHeld.1 j u hj), ((Ex.refl (fun _ => False) _).alloc _).cell (fun e => e) hHeld.2.1, ((Ex.refl (fun _ => False) _).alloc _).cell (fun e => e) hHeld.2.2⟩ | exact ⟨fun j u hj => HEX6.out.cell (fun e => e) (hHeld.1 j u hj), HEX6.out.cell (fun e => e) hHeld.2.1, HEX6.out.cell (fun e => e) hHeld.2.2⟩ | exact ⟨fun j u hj => (exC _).cell (by have := HEX6.out.size; have := HS.out.lt; simp [go_sem] at *; omega) (hHeld.1 j u hj), (exC _).cell (by have := HEX6.out.size; simp [go_sem] at *; omega) hHeld.2.1, (exC _).cell (by have := HEX6.out.size; simp [go_sem] at *; omega) hHeld.2.2⟩
        clear hK K
        try simp only [Act.put, List.getElem_toArray, List.getElem_cons_zero, List.getElem_cons_succ, List.setIfInBounds_toArray, List.set_cons_zero, List.set_cons_succ]
        refine wpAnyH_take (i := 6) (v := ?_) rfl (by kernel_rfl) (by kernel_rfl) (by kernel_rfl) (fun _ _ _ h => h) (Or.inl ⟨by rfl, ?_⟩) (by assumption) ?_
        rotate_left
        · (intro w hSw; (try dsimp only at hSw); go_simp; try (with_reducible rfl))
        try simp only [Act.put, List.getElem_toArray, List.getElem_cons_zero, List.getElem_cons_succ, List.setIfInBounds_toArray, List.set_cons_zero, List.set_cons_succ]
        refine wpAnyH_take (i := 7) (v := ?_) rfl (by kernel_rfl) (by kernel_rfl) (by kernel_rfl) (fun _ _ _ h => h) (Or.inl ⟨by rfl, ?_⟩) (by assumption) ?_
        rotate_left
        · (intro w hSw; (try dsimp only at hSw); go_simp; try (with_reducible rfl))
        try simp only [Act.put, List.getElem_toArray, List.getElem_cons_zero, List.getElem_cons_succ, List.setIfInBounds_toArray, List.set_cons_zero, List.set_cons_succ]
        refine wpAnyH_take (i := 8) (v := ?_) rfl (by kernel_rfl) (by kernel_rfl) (by kernel_rfl) (fun _ _ _ h => h) (Or.inl ⟨by rfl, ?_⟩) (by assumption) ?_
        rotate_left
        · (intro w hSw; (try dsimp only at hSw); go_simp; try (with_reducible rfl))
        try simp only [Act.put, List.getElem_toArray, List.getElem_cons_zero, List.getElem_cons_succ, List.setIfInBounds_toArray, List.set_cons_zero, List.set_cons_succ]
        refine wpAnyH_take (i := 9) (v := ?_) rfl (by kernel_rfl) (by kernel_rfl) (by kernel_rfl) (fun _ _ _ h => h) (Or.inl ⟨by rfl, ?_⟩) (by assumption) ?_
        rotate_left
        · (intro w hSw; (try dsimp only at hSw); go_simp; try (with_reducible rfl))
        try simp only [Act.put, List.getElem_toArray, List.getElem_cons_zero, List.getElem_cons_succ, List.setIfInBounds_toArray, List.set_cons_zero, List.set_cons_succ]
        refine wpAnyH_ready (rs := [11]) (by kernel_rfl) (by simp) ?_
        refine (AllReadyH.cons rfl (fun K hK => ?_) AllReadyH.nil)
        · first
            | refine step_storeM rfl 34 (.tmp 5) (.tmp 15) rfl W.heap.size 0 ms rfl rfl (by rw [HLM.out]; exact there_keep (S := fun _ => False) (there_keep (S := fun _ => False) (new_there W Try.zeroCells34 34 304 Try.zs34) ((Ex.refl _ _).drew) (fun e => e)) HEX6.out (fun e => e)) (by rw [HLM.out]; exact Try.sz34) HOM.out ?_
            | refine step_storeM rfl 34 (.tmp 5) (.tmp 15) rfl w6.heap.size 0 ms rfl rfl (by rw [HLM.out]; exact new_there w6 Try.zeroCells34 34 304 Try.zs34) (by rw [HLM.out]; exact Try.sz34) HOM.out ?_
          refine hK.out _ _ ?_ (fun hHeld => ?_)
          · first | exact hHeld | exact ⟨fun j u hj => ((Ex.refl (fun _ => False) _).alloc _).cell (fun e => e) (hHeld.1 j u hj), ((Ex.refl (fun _ => False) _).alloc _).cell (fun e => e) hHeld.2.1, ((Ex.refl (fun _ => False) _).alloc _).cell (fun e => e) hHeld.2.2⟩ | exact ⟨fun j u hj => HEX6.out.cell (fun e => e) (hHeld.1 j u hj), HEX6.out.cell (fun e => e) hHeld.2.1, HEX6.out.cell (fun e => e) hHeld.2.2⟩ | exact ⟨fun j u hj => (exC _).cell (by have := HEX6.out.size; have := HS.out.lt; simp [go_sem] at *; omega) (hHeld.1 j u hj), (exC _).cell (by have := HEX6.out.size; simp [go_sem] at *; omega) hHeld.2.1, (exC _).cell (by have := HEX6.out.size; simp [go_sem] at *; omega) hHeld.2.2⟩
          clear hK K
          try simp only [Act.put, List.getElem_toArray, List.getElem_cons_zero, List.getElem_cons_succ, List.setIfInBounds_toArray, List.set_cons_zero, List.set_cons_succ]
          refine wpAnyH_take (i := 12) (v := ?_) rfl (by kernel_rfl) (by kernel_rfl) (by kernel_rfl) (fun _ _ _ h => h) (Or.inl ⟨by rfl, ?_⟩) (by assumption) ?_
          rotate_left
          · (intro w hSw; (try dsimp only at hSw); go_simp; try (with_reducible rfl))
          try simp only [Act.put, List.getElem_toArray, List.getElem_cons_zero, List.getElem_cons_succ, List.setIfInBounds_toArray, List.set_cons_zero, List.set_cons_succ]
          refine wpAnyH_take (i := 13) (v := ?_) rfl (by kernel_rfl) (by kernel_rfl) (by kernel_rfl) (fun _ _ _ h => h) (Or.inl ⟨by rfl, ?_⟩) (by assumption) ?_
          rotate_left
          · (intro w hSw; (try dsimp only at hSw); go_simp; try (with_reducible rfl))
          try simp only [Act.put, List.getElem_toArray, List.getElem_cons_zero, List.getElem_cons_succ, List.setIfInBounds_toArray, List.set_cons_zero, List.set_cons_succ]
          refine wpAnyH_done (by kernel_rfl) ?_ _
          clear hHeld
          first
            | (have hsz : W.heap.size ≤ w6.heap.size := HEX6.out.size
               have HEW : Hid (Ex (fun _ => False) W ((w6.alloc (.cells Try.zeroCells34 34)).setCells w6.heap.size 0 ms)) := ((Ex.of_drew HEX6.out).alloc _).trans2 (exC ms) (fun k hk => .inr (by have hk : k = w6.heap.size := hk; omega))
               have HRP : Hid (((w6.alloc (.cells Try.zeroCells34 34)).setCells w6.heap.size 0 ms).rangeAt w6.heap.size 0 (mnC M2 xr xa)) := by
                 show World.rangeAt _ _ _ _
                 rw [HMS.out]
                 exact World.rangeAt_setCells_same _ _ 0 ms (by rw [HLM.out]; exact new_there w6 Try.zeroCells34 34 304 Try.zs34)
               have HMV7 : Hid (MV ((w6.alloc (.cells Try.zeroCells34 34)).setCells w6.heap.size 0 ms) M2 xr xa) := (HMV6.out.new ((Ex.refl (fun _ => False) w6).alloc _)).keepR (exC ms) (fun k hk z => by have z : k = w6.heap.size := z; have := HMV6.out.rlt hk; omega)
               go_wp2
               go_meet
               case rel => exact ⟨w6.heap.size, xr, xa, rfl, rfl, rfl, HEW, hsz, HRP, HMV7, HRI6⟩)
            | (have HEW : Hid (Ex (fun _ => False) W (w6.setCells W.heap.size 0 ms)) := (((Ex.refl (fun _ => False) W).alloc _).drew.trans HEX6.out).trans2 (exC ms) (fun k hk => .inr (by have hk : k = W.heap.size := hk; omega))
               have HRP : Hid ((w6.setCells W.heap.size 0 ms).rangeAt W.heap.size 0 (mnC M2 xr xa)) := by
                 show World.rangeAt _ _ _ _
                 rw [HMS.out]
                 exact World.rangeAt_setCells_same _ _ 0 ms (by rw [HLM.out]; exact there_keep (S := fun _ => False) (there_keep (S := fun _ => False) (new_there W Try.zeroCells34 34 304 Try.zs34) ((Ex.refl _ _).drew) (fun e => e)) HEX6.out (fun e => e))
               have HNE : Hid (∀ k, RIn xr xa k → RIn vr va k ∨ W.heap.size < k) := fun k hk => by
                 rcases HRI6.out k hk with z | z
                 · exact .inl z
                 · right; simp [go_sem] at z; omega
               have HMV7 : Hid (MV (w6.setCells W.heap.size 0 ms) M2 xr xa) := HMV6.out.keepR (exC ms) (fun k hk z => by
                 have z : k = W.heap.size := z
                 rcases HNE.out k hk with q | q
                 · have := HS.out.now.mv.rlt q; omega
                 · omega)
               go_wp2
               go_meet
               case rel => exact ⟨W.heap.size, xr, xa, rfl, rfl, rfl, HEW, hide (Nat.le_refl _), HRP, HMV7, fun k hk => by
                 rcases HNE.out k hk with q | q
                 · exact .inl q
                 · exact .inr (Nat.le_of_lt q)⟩)
  obtain ⟨p, xr, xa, rfl, rfl, rfl, HE2, HP, HRP, HMV, HRI⟩ := hcut
  have HS2 := hide (HS.out.new HE2.out)
  have d0 := HE2.out.cell (fun e => e) HD0.out
  have d1 := HE2.out.cell (fun e => e) HD1.out
  have d2 := HE2.out.cell (fun e => e) HD2.out
  have df := fun j => (HE2.out.frozen (q := r1) (j := j) (fun e => e) hr1W).trans (HDF.out j)
  by_cases he : er = 0
  · subst he
    rw [if_pos rfl] at HAM
    have HRS := hide HS2.out.now.range
    rw [HCS.out] at HRS
    have HONc := hide HS2.out.now.mv.one
    rw [HCS.out] at HONc
    have HLM := hide (mnC_len M2 xr xa)
    have HONm := hide HMV.out.one
    have HTB := hide HS2.out.thereB
    have HCM := hide (HS2.out.commit HMV.out (fun k hk => by
      have hsW := HS.out.lt
      rcases HRI.out k hk with z | z
      · exact HS.out.nr k z
      · refine ⟨by omega, fun q => ?_⟩
        have := (HS.out.sto.lt k q).2
        omega) HMO.out)
    rw [HCS.out] at HCM
    have HTN : Hid (∀ V, V = wc.setCells s 305 cs → V.there s 0 304) := fun V hV j hj => by
      subst hV
      obtain ⟨a, b⟩ := HS2.out.thereN j hj
      exact ⟨by rw [Nat.zero_add] at a ⊢; rw [out_cell _ _ _ _ _ (.inl (by omega))]; exact a, by rw [World.frozen?_setCells]; exact b⟩
    have E1 : Ex (fun k => k = s) wc (wc.setCells s 305 cs) := Ex.sets (S := fun k => k = s) (p := s) rfl _ _ _ (Ex.refl _ _)
    have hps : ¬ p = s := by have := HP.out; have := HS.out.lt; omega
    have HRP1 : Hid ((wc.setCells s 305 cs).rangeAt p 0 (mnC M2 xr xa)) := fun j u hj => E1.cell hps (HRP.out j u hj)
    obtain ⟨ms, hms⟩ : ∃ ms, mnC M2 xr xa = ms := ⟨_, rfl⟩
    rw [hms] at HLM HONm HCM HRP1
    clear hms
    go_upto_region 4 with fail
    refine wp_region_lit ?_
    refine wpL_run rfl (.pointer (some ⟨s, 0, none⟩)) _ rfl ?_
    try simp only [Act.put, List.getElem_toArray, List.getElem_cons_zero, List.getElem_cons_succ, List.setIfInBounds_toArray, List.set_cons_zero, List.set_cons_succ]
    refine wpL_run rfl (.pointer (some ⟨s, 0, none⟩)) _ rfl ?_
    try simp only [Act.put, List.getElem_toArray, List.getElem_cons_zero, List.getElem_cons_succ, List.setIfInBounds_toArray, List.set_cons_zero, List.set_cons_succ]
    refine wpL_run rfl (.pointer (some ⟨s, 0, none⟩)) _ rfl ?_
    try simp only [Act.put, List.getElem_toArray, List.getElem_cons_zero, List.getElem_cons_succ, List.setIfInBounds_toArray, List.set_cons_zero, List.set_cons_succ]
    refine wpL_run rfl (.pointer (some ⟨s, 0, none⟩)) _ rfl ?_
    try simp only [Act.put, List.getElem_toArray, List.getElem_cons_zero, List.getElem_cons_succ, List.setIfInBounds_toArray, List.set_cons_zero, List.set_cons_succ]
    refine wpL_load rfl 34 (.tmp 26) rfl s 0 rfl cs _ HRS.out Try.underlying34 rfl (by rw [HLN.out]; exact Try.sz34) ?_
    try simp only [Act.put, List.getElem_toArray, List.getElem_cons_zero, List.getElem_cons_succ, List.setIfInBounds_toArray, List.set_cons_zero, List.set_cons_succ]
    refine wpL_run rfl (.pointer (some ⟨s, 0, none⟩)) _ rfl ?_
    try simp only [Act.put, List.getElem_toArray, List.getElem_cons_zero, List.getElem_cons_succ, List.setIfInBounds_toArray, List.set_cons_zero, List.set_cons_succ]
    refine wpL_run rfl (.pointer (some ⟨s, 305, none⟩)) _ rfl ?_
    try simp only [Act.put, List.getElem_toArray, List.getElem_cons_zero, List.getElem_cons_succ, List.setIfInBounds_toArray, List.set_cons_zero, List.set_cons_succ]
    refine wpL_store rfl 34 (.tmp 29) (.tmp 27) rfl s 305 cs rfl rfl (by rw [HLN.out]; exact HTB.out) (by rw [HLN.out]; exact Try.sz34) HONc.out ?_
    try simp only [Act.put, List.getElem_toArray, List.getElem_cons_zero, List.getElem_cons_succ, List.setIfInBounds_toArray, List.set_cons_zero, List.set_cons_succ]
    refine wpList_nil ?_
    have hTN := HTN.out _ rfl
    go_upto_region 5 with fail
    refine wp_region_lit ?_
    refine wpL_run rfl (.pointer (some ⟨s, 0, none⟩)) _ rfl ?_
    try simp only [Act.put, List.getElem_toArray, List.getElem_cons_zero, List.getElem_cons_succ, List.setIfInBounds_toArray, List.set_cons_zero, List.set_cons_succ]
    refine wpL_load rfl 34 (.tmp 5) rfl p 0 rfl ms _ HRP1.out Try.underlying34 rfl (by rw [HLM.out]; exact Try.sz34) ?_
    try simp only [Act.put, List.getElem_toArray, List.getElem_cons_zero, List.getElem_cons_succ, List.setIfInBounds_toArray, List.set_cons_zero, List.set_cons_succ]
    refine wpL_run rfl (.pointer (some ⟨s, 0, none⟩)) _ rfl ?_
    try simp only [Act.put, List.getElem_toArray, List.getElem_cons_zero, List.getElem_cons_succ, List.setIfInBounds_toArray, List.set_cons_zero, List.set_cons_succ]
    refine wpL_run rfl (.pointer (some ⟨s, 0, none⟩)) _ rfl ?_
    try simp only [Act.put, List.getElem_toArray, List.getElem_cons_zero, List.getElem_cons_succ, List.setIfInBounds_toArray, List.set_cons_zero, List.set_cons_succ]
    refine wpL_store rfl 34 (.tmp 33) (.tmp 31) rfl s 0 ms rfl rfl (by rw [HLM.out]; exact hTN) (by rw [HLM.out]; exact Try.sz34) HONm.out ?_
    try simp only [Act.put, List.getElem_toArray, List.getElem_cons_zero, List.getElem_cons_succ, List.setIfInBounds_toArray, List.set_cons_zero, List.set_cons_succ]
    refine wpList_nil ?_
    have E2 : Ex (fun k => k = s) wc ((wc.setCells s 305 cs).setCells s 0 ms) := Ex.sets (S := fun k => k = s) (p := s) rfl _ _ _ E1
    have k9 : ((wc.setCells s 305 cs).setCells s 0 ms).cell? ⟨s, 609, none⟩ = some (.bool y.cu) := by
      rw [out_cell _ _ _ _ _ (.inr (by rw [HLM.out]; omega)), out_cell _ _ _ _ _ (.inr (by rw [HLN.out]; omega)), HS2.out.cuc]
    have k9f : ((wc.setCells s 305 cs).setCells s 0 ms).frozen? ⟨s, 609, none⟩ = false := by
      rw [World.frozen?_setCells, World.frozen?_setCells]; exact HS2.out.fz _
    have E3 : Ex (fun k => k = s) wc (((wc.setCells s 305 cs).setCells s 0 ms).setCell ⟨s, 609, none⟩ (.bool true)) := E2.set (p := s) rfl _
    have g0 := E3.cell hrs d0
    have g1 := E3.cell hrs d1
    have g2 := E3.cell hrs d2
    have gf := fun j => (E3.frozen (q := r1) (j := j) hrs (by have := HE2.out.size; omega)).trans (df j)
    have HE3 := hide ((HE.out.trans HE2.out).mono (fun _ z => z.elim) |>.trans (E3.mono (fun k hk => (.inl hk : k = s ∨ False))))
    clear E1 E2 E3 hTN HTN d0 d1 d2 df HRP1 HRP HS2 HTB
    generalize (wc.setCells s 305 cs).setCells s 0 ms = V at *
    generalize Value.agg cs.toArray = CV at *
    generalize Value.agg ms.toArray = MV_ at *
    go_upto_region 7 with fail
    clear k9 k9f
    generalize V.setCell ⟨s, 609, none⟩ (.bool true) = V2 at *
    have HE4 : Hid (Ex (fun k => k = s ∨ False) w (((V2.setCell ⟨r1, 0, none⟩ (.int .i64 0)).setCell ⟨r1, 1, none⟩ (.int .i64 0)).setCell ⟨r1, 2, none⟩ (.string ⟨#[]⟩))) := ((HE3.out.setNew (p := r1) (Nat.le_of_lt HR1.out) _).setNew (p := r1) (Nat.le_of_lt HR1.out) _).setNew (p := r1) (Nat.le_of_lt HR1.out) _
    have HSF : Hid (SQ (((V2.setCell ⟨r1, 0, none⟩ (.int .i64 0)).setCell ⟨r1, 1, none⟩ (.int .i64 0)).setCell ⟨r1, 2, none⟩ (.string ⟨#[]⟩)) s ⟨M2, y.st, y.now, true⟩ xr xa vr va sv) := by
      refine HCM.out.keep ((((Ex.refl (fun k => k = r1) V2).set (p := r1) rfl _).set (p := r1) rfl _).set (p := r1) rfl _) (fun z => hrs z.symm) (fun k hk z => ?_) (fun k hk z => ?_) (fun k hk z => ?_)
      · have := HLT.out.2.2 k hk; have := HR1.out; omega
      · rcases HRI.out k hk with q | q
        · have := HLT.out.1 k q; have := HR1.out; omega
        · omega
      · have := HLT.out.1 k hk; have := HR1.out; omega
    go_wp2
    refine bodyPost_ret (v := ansV 0 0 ⟨#[]⟩) (by simp [results, Try.results26, go_sem, ansV, g0, g1, g2]) rfl ?_
    rw [HAM.out]
    exact ⟨rfl, HE4.out, xr, xa, vr, va, sv, HSF.out, fun k hk => by
      rcases HRI.out k hk with q | q
      · exact .inl q
      · have := HE.out.size; exact .inr (.inr (by omega)), fun k hk => .inl hk, fun k hk => .inl hk⟩
  · have heb : (er != 0) = true := by simp [he]
    rw [if_neg he] at HAM
    have HEF : Hid (Ex (fun k => k = s ∨ False) w (((wc.setCell ⟨r1, 0, none⟩ (.int .i64 er)).setCell ⟨r1, 1, none⟩ (.int .i64 at_)).setCell ⟨r1, 2, none⟩ (.string ⟨#[]⟩))) := ((((HE.out.trans HE2.out).mono (fun _ z => z.elim)).setNew (p := r1) (Nat.le_of_lt HR1.out) _).setNew (p := r1) (Nat.le_of_lt HR1.out) _).setNew (p := r1) (Nat.le_of_lt HR1.out) _
    have HSF : Hid (SQ (((wc.setCell ⟨r1, 0, none⟩ (.int .i64 er)).setCell ⟨r1, 1, none⟩ (.int .i64 at_)).setCell ⟨r1, 2, none⟩ (.string ⟨#[]⟩)) s y vr va ur ua sv) := by
      refine HS2.out.keep ((((Ex.refl (fun k => k = r1) wc).set (p := r1) rfl _).set (p := r1) rfl _).set (p := r1) rfl _) (fun z => hrs z.symm) (fun k hk z => ?_) (fun k hk z => ?_) (fun k hk z => ?_)
      · have := HLT.out.2.2 k hk; have := HR1.out; omega
      · have := HLT.out.1 k hk; have := HR1.out; omega
      · have := HLT.out.2.1 k hk; have := HR1.out; omega
    go_wp2
    refine bodyPost_ret (v := ansV er at_ ⟨#[]⟩) (by simp [results, Try.results26, go_sem, ansV, d0, d1, d2]) rfl ?_
    rw [HAM.out]
    exact ⟨rfl, HEF.out, vr, va, ur, ua, sv, HSF.out, fun k hk => .inl hk, fun k hk => .inr (.inl hk), fun k hk => .inl hk⟩
end Go.Proofs.Qxb6500778a
