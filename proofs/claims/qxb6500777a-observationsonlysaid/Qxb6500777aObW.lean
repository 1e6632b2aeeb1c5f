import Derived.Test.Qxb6500777aObP
namespace Go.Proofs.Qxb6500777a
open Go.RowKit

/-- Four truth values in block x. -/
structure PT (w : World) (x : Nat) (f : Nat → Bool) : Prop where
  c : ∀ i, i < 4 → w.cell? ⟨x, i, none⟩ = some (.bool (f i))
  f : ∀ j, w.frozen? ⟨x, j, none⟩ = false
section
variable {w w' : World} {x : Nat} {f : Nat → Bool}
theorem PT.lt (h : PT w x f) : x < w.heap.size := World.block_lt_of_cell? _ _ (h.c 0 (by omega))
theorem PT.below (h : PT w x f) (hb : Below w.heap.size w w') : PT w' x f := ⟨fun i hi => cellKeep hb (h.c i hi), fun j => (World.frozen?_of_block (hb.block x h.lt)).trans (h.f j)⟩
theorem PT.keep (h : PT w x f) {b lo n : Nat} (k : Fr b lo n w w') (hq : x ≠ b) : PT w' x f := ⟨fun i hi => k.ex.cell hq (h.c i hi), fun j => (k.ex.frozen hq h.lt).trans (h.f j)⟩
theorem PT.set (h : PT w x f) {i : Nat} (hi : i < 4) (u : Bool) : PT (w.setCell ⟨x, i, none⟩ (.bool u)) x (upd f i u) := by
  refine ⟨fun j hj => ?_, fun j => by rw [set_frozen]; exact h.f j⟩
  by_cases e : j = i
  · subst e; rw [upd_same]; exact World.cell?_setCell_same _ _ _ (h.c j hj)
  · rw [upd_ne _ _ e, World.cell?_setCell_other _ _ _ _ (by simp <;> omega)]; exact h.c j hj
theorem new_pt (w : World) : PT (w.alloc (.cells #[.bool false, .bool false, .bool false, .bool false] 71)) w.heap.size (fun _ => false) := by
  refine ⟨fun i hi => ?_, fun j => by simp [go_sem]⟩
  rcases (by omega : i = 0 ∨ i = 1 ∨ i = 2 ∨ i = 3) with rfl | rfl | rfl | rfl <;> simp [go_sem]
end
/-- The blocks of two runs. -/
structure Ap (m p q b p2 q2 b2 x : Nat) : Prop where
  a1 : m ≠ p ∧ m ≠ q ∧ m ≠ b ∧ m ≠ p2 ∧ m ≠ q2 ∧ m ≠ b2 ∧ m ≠ x
  a2 : p ≠ p2 ∧ p ≠ q2 ∧ p ≠ b2 ∧ q ≠ p2 ∧ q ≠ q2 ∧ q ≠ b2 ∧ b ≠ p2 ∧ b ≠ q2 ∧ b ≠ b2
  a3 : x ≠ p ∧ x ≠ q ∧ x ≠ b ∧ x ≠ p2 ∧ x ≠ q2 ∧ x ≠ b2

/-- A step in its box, made after all else. -/
structure BXo (w : World) (y : Nat) (op : Opn) : Prop where
  c : ∀ (j : Nat) (v : Value), op.vals[j]? = some v → w.cell? ⟨y, j, none⟩ = some v
theorem BXo.keep {w w' : World} {y : Nat} {op : Opn} (h : BXo w y op) {b lo n : Nat} (k : Fr b lo n w w') (hb : y ≠ b) : BXo w' y op := ⟨fun j v hv => k.ex.cell hb (h.c j v hv)⟩
theorem BXo.below {w w' : World} {y : Nat} {op : Opn} (h : BXo w y op) (k : Below w.heap.size w w') : BXo w' y op := ⟨fun j v hv => cellKeep k (h.c j v hv)⟩
theorem new_bx (w : World) (op : Opn) : BXo (w.alloc (.cells #[.int .i64 op.kd, .int .i64 op.a, .int .i64 op.b, .int .i64 op.c, .int .i64 op.d, .int .i64 op.e, .int .i64 op.on] 37)) w.heap.size op := ⟨fun j v hv => by have := new_cells w op.vals 37 j v hv; rw [Addr.add_mid, Nat.zero_add] at this; exact this⟩
theorem BXo.cc {w : World} {y : Nat} {op : Opn} (h : BXo w y op) : w.cell? ⟨y, 0, none⟩ = some (.int .i64 op.kd) ∧ w.cell? ⟨y, 1, none⟩ = some (.int .i64 op.a) ∧ w.cell? ⟨y, 2, none⟩ = some (.int .i64 op.b) ∧ w.cell? ⟨y, 3, none⟩ = some (.int .i64 op.c) ∧ w.cell? ⟨y, 4, none⟩ = some (.int .i64 op.d) ∧ w.cell? ⟨y, 5, none⟩ = some (.int .i64 op.e) ∧ w.cell? ⟨y, 6, none⟩ = some (.int .i64 op.on) := ⟨h.c 0 _ rfl, h.c 1 _ rfl, h.c 2 _ rfl, h.c 3 _ rfl, h.c 4 _ rfl, h.c 5 _ rfl, h.c 6 _ rfl⟩

set_option linter.unusedSimpArgs false in
set_option maxRecDepth 100000 in
set_option maxHeartbeats 16000000 in
theorem observationsOnly_walk (w : World) (a : Option Addr) (n cap : Nat) (f : Nat → Opn) (hn : n ≤ 9223372036854775807) (ho : OpsAt w a n f) :
    Calls Try.prog 8 #[.slice a n cap] w fun e w' => e = .returned (.bool true) ∧ Below w.heap.size w w' := by
  have HO := hide ho
  clear ho
  by_cases hsm : n ≤ 65536
  · go_enter Try.func8, Try.ntmps8
    go_wp2_with fail
    refine (small_any _ a n cap hn).mono ?_
    rintro e w' ⟨rfl, ew⟩
    rw [ew]
    have hd : decide (n ≤ 65536) = true := by simpa using hsm
    rw [hd]
    clear hd ew w'
    go_wp2_with fail
    refine (newT_any _).mono ?_
    rintro e wn1 ⟨rfl, h1, b1⟩
    obtain ⟨m, hm⟩ : ∃ x, w.heap.size = x := ⟨_, rfl⟩
    rw [hm] at h1 ⊢
    have hgem : w.heap.size ≤ m := by omega
    have hltm : m < wn1.heap.size := h1.lt
    have hsz1 := b1.size
    have Kt := hide h1
    have KB := hide b1
    clear h1 b1 hm
    go_wp2_with fail
    refine (newW_any _).mono ?_
    rintro e wn2 ⟨rfl, h1, b1⟩
    obtain ⟨p, hp⟩ : ∃ x, wn1.heap.size = x := ⟨_, rfl⟩
    rw [hp] at h1 ⊢
    have hgep : wn1.heap.size ≤ p := by omega
    have hltp : p < wn2.heap.size := h1.lt
    have hsz2 := b1.size
    replace Kt := hide (Kt.out.below b1)
    have Kw := hide h1
    replace KB := hide (lec KB.out b1)
    clear h1 b1 hp
    go_wp2_with fail
    refine (newW_any _).mono ?_
    rintro e wn3 ⟨rfl, h1, b1⟩
    obtain ⟨p2, hp2⟩ : ∃ x, wn2.heap.size = x := ⟨_, rfl⟩
    rw [hp2] at h1 ⊢
    have hgep2 : wn2.heap.size ≤ p2 := by omega
    have hltp2 : p2 < wn3.heap.size := h1.lt
    have hsz3 := b1.size
    replace Kt := hide (Kt.out.below b1)
    replace Kw := hide (Kw.out.below b1)
    have Kv := hide h1
    replace KB := hide (lec KB.out b1)
    clear h1 b1 hp2
    go_wp2_with fail
    refine (newP_any _).mono ?_
    rintro e wn4 ⟨rfl, h1, b1⟩
    obtain ⟨q, hq⟩ : ∃ x, wn3.heap.size = x := ⟨_, rfl⟩
    rw [hq] at h1 ⊢
    have hgeq : wn3.heap.size ≤ q := by omega
    have hltq : q < wn4.heap.size := h1.lt
    have hsz4 := b1.size
    replace Kt := hide (Kt.out.below b1)
    replace Kw := hide (Kw.out.below b1)
    replace Kv := hide (Kv.out.below b1)
    have Kp := hide h1
    replace KB := hide (lec KB.out b1)
    clear h1 b1 hq
    go_wp2_with fail
    refine (newP_any _).mono ?_
    rintro e wn5 ⟨rfl, h1, b1⟩
    obtain ⟨q2, hq2⟩ : ∃ x, wn4.heap.size = x := ⟨_, rfl⟩
    rw [hq2] at h1 ⊢
    have hgeq2 : wn4.heap.size ≤ q2 := by omega
    have hltq2 : q2 < wn5.heap.size := h1.lt
    have hsz5 := b1.size
    replace Kt := hide (Kt.out.below b1)
    replace Kw := hide (Kw.out.below b1)
    replace Kv := hide (Kv.out.below b1)
    replace Kp := hide (Kp.out.below b1)
    have Kq := hide h1
    replace KB := hide (lec KB.out b1)
    clear h1 b1 hq2
    go_wp2_with fail
    refine (newB_any _ m).mono ?_
    rintro e wn6 ⟨b, rfl, hbg, h1, b1⟩
    have hgeb : wn5.heap.size ≤ b := hbg
    have hltb : b < wn6.heap.size := h1.lt
    have hsz6 := b1.size
    replace Kt := hide (Kt.out.below b1)
    replace Kw := hide (Kw.out.below b1)
    replace Kv := hide (Kv.out.below b1)
    replace Kp := hide (Kp.out.below b1)
    replace Kq := hide (Kq.out.below b1)
    have Kb := hide h1
    replace KB := hide (lec KB.out b1)
    clear h1 b1 hbg
    go_wp2_with fail
    refine (newB_any _ m).mono ?_
    rintro e wn7 ⟨b2, rfl, hbg, h1, b1⟩
    have hgeb2 : wn6.heap.size ≤ b2 := hbg
    have hltb2 : b2 < wn7.heap.size := h1.lt
    have hsz7 := b1.size
    replace Kt := hide (Kt.out.below b1)
    replace Kw := hide (Kw.out.below b1)
    replace Kv := hide (Kv.out.below b1)
    replace Kp := hide (Kp.out.below b1)
    replace Kq := hide (Kq.out.below b1)
    replace Kb := hide (Kb.out.below b1)
    have Kc := hide h1
    replace KB := hide (lec KB.out b1)
    clear h1 b1 hbg
    have HL := hide (show LS w wn7 m p q b (fun _ => tgt0) (fun _ => 0) (fun _ => tbl0) 1 from ⟨Kt.out, Kw.out, Kp.out, Kb.out, ⟨fun _ _ => tbl0_ok, fun _ _ => Int.le_refl 1⟩, fun _ _ => tgt0_ok, fun _ => ⟨Int.le_refl 0, by show (0 : Int) ≤ 3; omega⟩, KB.out, by omega, by omega⟩)
    have HM := hide (show LS w wn7 m p2 q2 b2 (fun _ => tgt0) (fun _ => 0) (fun _ => tbl0) 1 from ⟨Kt.out, Kv.out, Kq.out, Kc.out, ⟨fun _ _ => tbl0_ok, fun _ _ => Int.le_refl 1⟩, fun _ _ => tgt0_ok, fun _ => ⟨Int.le_refl 0, by show (0 : Int) ≤ 3; omega⟩, KB.out, by omega, by omega⟩)
    clear Kt Kw Kv Kp Kq Kb Kc KB
    go_upto_region 11 with fail
    have HPT := hide (new_pt wn7)
    replace HL := hide (HL.out.below (be1 wn7 (.cells #[.bool false, .bool false, .bool false, .bool false] 71)))
    replace HM := hide (HM.out.below (be1 wn7 (.cells #[.bool false, .bool false, .bool false, .bool false] 71)))
    generalize wn7.alloc (.cells #[.bool false, .bool false, .bool false, .bool false] 71) = w1 at *
    obtain ⟨x, hx⟩ : ∃ x, wn7.heap.size = x := ⟨_, rfl⟩
    have HAP := hide (show Ap m p q b p2 q2 b2 x from ⟨by omega, by omega, by omega⟩)
    have HXG := hide (show w.heap.size ≤ x by omega)
    rw [hx] at HPT ⊢
    clear hx hgem hgep hgep2 hgeq hgeq2 hgeb hgeb2 hltm hltp hltp2 hltq hltq2 hltb hltb2 hsz1 hsz2 hsz3 hsz4 hsz5 hsz6 hsz7
    go_wp2
    go_loopw [11, 12, 13, 14] (fun s11 _ _ _ wr => ∃ (k : Nat) (W W2 : Nat → Tgt) (G G2 : Nat → Int) (TT T2 : Nat → Tbl) (P : Nat → Bool), k ≤ n ∧ s11 = .int .i64 k ∧ LS w wr m p q b W G TT (1 + 112 * (k : Int)) ∧ LS w wr m p2 q2 b2 W2 G2 T2 (1 + 112 * (k : Int)) ∧ PT wr x P ∧ Hid (∀ i, i < 4 → P i = false → TT i = T2 i)) (fun s11 _ _ _ _ => n - (intOf s11).toNat)
    case atStart => exact ⟨0, _, _, _, _, _, _, _, Nat.zero_le _, rfl, HL.out, HM.out, HPT.out, hide fun _ _ _ => rfl⟩
    case round =>
      clear HL HM HPT
      obtain ⟨k, W, W2, G, G2, TT, T2, P, hk, rfl, hl, hm, hpt, HEQ⟩ := hrel
      have HL := hide hl
      have HM := hide hm
      have HPT := hide hpt
      clear hl hm hpt
      by_cases hlt : k < n
      · have hlti : (k : Int) < (n : Int) := by omega
        obtain ⟨sb, off, rfl, hok, -⟩ := HO.out.at hlt
        have HC := hide (show ∀ wx, Below w.heap.size w wx → _ from fun wx hb => (HO.out.below hb).at hlt)
        obtain ⟨op, hop⟩ : ∃ op, f k = op := ⟨_, rfl⟩
        rw [hop] at hok HC
        have HOK := hide hok
        clear hok hop
        obtain ⟨_, _, e, -, c0, c1, c2, c3, c4, c5, c6⟩ := HC.out _ HL.out.bel
        cases e
        go_upto_region 15 with fail
        have HBX := hide (new_bx wr op)
        have HYN := hide (show wr.heap.size ≠ p ∧ wr.heap.size ≠ q ∧ wr.heap.size ≠ b ∧ wr.heap.size ≠ p2 ∧ wr.heap.size ≠ q2 ∧ wr.heap.size ≠ b2 ∧ wr.heap.size ≠ x from ⟨by have := HL.out.wr.lt; omega, by have := HL.out.pa.lt; omega, by have := HL.out.bd.lt; omega, by have := HM.out.wr.lt; omega, by have := HM.out.pa.lt; omega, by have := HM.out.bd.lt; omega, by have := HPT.out.lt; omega⟩)
        replace HL := hide (HL.out.below (be1 wr (.cells #[.int .i64 op.kd, .int .i64 op.a, .int .i64 op.b, .int .i64 op.c, .int .i64 op.d, .int .i64 op.e, .int .i64 op.on] 37)))
        replace HM := hide (HM.out.below (be1 wr (.cells #[.int .i64 op.kd, .int .i64 op.a, .int .i64 op.b, .int .i64 op.c, .int .i64 op.d, .int .i64 op.e, .int .i64 op.on] 37)))
        replace HPT := hide (HPT.out.below (be1 wr (.cells #[.int .i64 op.kd, .int .i64 op.a, .int .i64 op.b, .int .i64 op.c, .int .i64 op.d, .int .i64 op.e, .int .i64 op.on] 37)))
        generalize wr.alloc (.cells #[.int .i64 op.kd, .int .i64 op.a, .int .i64 op.b, .int .i64 op.c, .int .i64 op.d, .int .i64 op.e, .int .i64 op.on] 37) = w2 at *
        generalize wr.heap.size = y at *
        clear c0 c1 c2 c3 c4 c5 c6
        by_cases hkd : op.kd = 2
        · have hkb : (op.kd == 2) = true := by simp [hkd]
          clear hkd
          by_cases hon : op.on = 0
          · have honb : (op.on == 0) = true := by simp [hon]
            clear hon
            obtain ⟨x0, x1, x2, x3, x4, x5, x6⟩ := HBX.out.cc
            go_upto_region 17 with fail
            clear x0 x1 x2 x3 x4 x5 x6
            obtain ⟨x0, x1, x2, x3, x4, x5, x6⟩ := HBX.out.cc
            go_wp2_with fail
            refine (stepW_any _ p W HL.out.wr op HOK.out).mono ?_
            rintro e w3 ⟨rfl, h1, h2⟩
            clear x0 x1 x2 x3 x4 x5 x6
            replace HM := hide (HM.out.other h2 HAP.out.a1.1 (Ne.symm HAP.out.a2.1) (Ne.symm HAP.out.a2.2.1) (Ne.symm HAP.out.a2.2.2.1) HL.out.ge.1)
            replace HL := hide (HL.out.world h2 h1 (wst_ok op HL.out.wo))
            replace HPT := hide (HPT.out.keep h2 HAP.out.a3.1)
            replace HBX := hide (HBX.out.keep h2 HYN.out.1)
            obtain ⟨W1n, hWn⟩ : ∃ Wn, wstP W op = Wn := ⟨_, rfl⟩
            rw [hWn] at HL
            clear hWn h1 h2
            obtain ⟨x0, x1, x2, x3, x4, x5, x6⟩ := HBX.out.cc
            go_wp2_with fail
            refine (stepW_any _ p2 W2 HM.out.wr op HOK.out).mono ?_
            rintro e w4 ⟨rfl, h1, h2⟩
            clear x0 x1 x2 x3 x4 x5 x6
            replace HL := hide (HL.out.other h2 HAP.out.a1.2.2.2.1 HAP.out.a2.1 HAP.out.a2.2.2.2.1 HAP.out.a2.2.2.2.2.2.2.1 HM.out.ge.1)
            replace HM := hide (HM.out.world h2 h1 (wst_ok op HM.out.wo))
            replace HPT := hide (HPT.out.keep h2 HAP.out.a3.2.2.2.1)
            replace HBX := hide (HBX.out.keep h2 HYN.out.2.2.2.1)
            obtain ⟨W2n, hWn⟩ : ∃ Wn, wstP W2 op = Wn := ⟨_, rfl⟩
            rw [hWn] at HM
            clear hWn h1 h2
            obtain ⟨x0, x1, x2, x3, x4, x5, x6⟩ := HBX.out.cc
            go_wp2_with fail
            refine (list_any _ q G HL.out.pa).mono ?_
            rintro e w5 ⟨da, dc, rfl, hdr, hb⟩
            clear x0 x1 x2 x3 x4 x5 x6
            have HDG := hide (show ∀ g off, da = some ⟨g, off, none⟩ → g < w5.heap.size ∧ g ≠ b from fun g off e => ⟨(hdr.da.2 g off e).2, by have := (hdr.da.2 g off e).1; have := HL.out.bd.lt; omega⟩)
            replace HL := hide (HL.out.below hb)
            replace HM := hide (HM.out.below hb)
            replace HPT := hide (HPT.out.below hb)
            replace HBX := hide (HBX.out.below hb)
            have HDA := hide hdr.da.1
            have hdl : (lsN G 1792).length ≤ 1792 := lsN_len G 1792
            clear hdr hb
            go_wp2_with fail
            refine (tick_any _ b m p dX dY W1n da _ dc (lsN G 1792) TT (1 + 112 * (k : Int)) HL.out.bd HL.out.ti (by omega) HL.out.mt HL.out.ne.2.2.1 HDA.out rfl (by omega) HDG.out HL.out.wr.wa HL.out.ne.2.2.2.2.1 HL.out.wo).mono ?_
            rintro e w6 ⟨T1n, rfl, hbd, hti, htr, hfr⟩
            have HT1 := hide htr
            have HTI := hide HL.out.ti
            replace HM := hide (HM.out.other hfr HAP.out.a1.2.2.1 (Ne.symm HAP.out.a2.2.2.2.2.2.2.1) (Ne.symm HAP.out.a2.2.2.2.2.2.2.2.1) (Ne.symm HAP.out.a2.2.2.2.2.2.2.2.2) HL.out.ge.2.2)
            replace HL := hide (HL.out.board hfr hbd hti)
            replace HPT := hide (HPT.out.keep hfr HAP.out.a3.2.2.1)
            replace HBX := hide (HBX.out.keep hfr HYN.out.2.2.1)
            clear hbd hti htr hfr HDA HDG
            go_wp2_with fail
            refine (list_any _ q2 G2 HM.out.pa).mono ?_
            rintro e w7 ⟨da, dc, rfl, hdr, hb⟩
            have HDG := hide (show ∀ g off, da = some ⟨g, off, none⟩ → g < w7.heap.size ∧ g ≠ b2 from fun g off e => ⟨(hdr.da.2 g off e).2, by have := (hdr.da.2 g off e).1; have := HM.out.bd.lt; omega⟩)
            replace HL := hide (HL.out.below hb)
            replace HM := hide (HM.out.below hb)
            replace HPT := hide (HPT.out.below hb)
            replace HBX := hide (HBX.out.below hb)
            have HDA := hide hdr.da.1
            have hdl2 : (lsN G2 1792).length ≤ 1792 := lsN_len G2 1792
            clear hdr hb
            go_wp2_with fail
            refine (tick_any _ b2 m p2 dX dY W2n da _ dc (lsN G2 1792) T2 (1 + 112 * (k : Int)) HM.out.bd HM.out.ti (by omega) HM.out.mt HM.out.ne.2.2.1 HDA.out rfl (by omega) HDG.out HM.out.wr.wa HM.out.ne.2.2.2.2.1 HM.out.wo).mono ?_
            rintro e w8 ⟨T2n, rfl, hbd, hti, htr, hfr⟩
            have HT2 := hide htr
            replace HL := hide (HL.out.other hfr HAP.out.a1.2.2.2.2.2.1 HAP.out.a2.2.2.1 HAP.out.a2.2.2.2.2.2.1 HAP.out.a2.2.2.2.2.2.2.2.2 HM.out.ge.2.2)
            replace HM := hide (HM.out.board hfr hbd hti)
            replace HPT := hide (HPT.out.keep hfr HAP.out.a3.2.2.2.2.2)
            replace HBX := hide (HBX.out.keep hfr HYN.out.2.2.2.2.2.1)
            clear hbd hti htr hfr HDA HDG
            have HOT := hide (show ∀ t : Nat, t < 4 → P t = false → SameObs (lsN G 1792) (lsN G2 1792) W1n W2n (t : Int) → T1n t = T2n t from fun t ht hp hs => by
              have e := HEQ.out t ht hp
              have a := HT1.out t ht
              rw [e] at a
              exact obs_tick hs (by rw [← e]; exact (HTI.out.tk t ht).inv) a (HT2.out t ht))
            clear HT1 HT2 HTI HEQ
            go_wp2
            go_loopw [14] (fun s14 wx => ∃ (t : Nat) (P2 : Nat → Bool), t ≤ 4 ∧ s14 = .int .i64 t ∧ LS w wx m p q b W1n G T1n (1 + 112 * (k : Int) + 112) ∧ LS w wx m p2 q2 b2 W2n G2 T2n (1 + 112 * (k : Int) + 112) ∧ PT wx x P2 ∧ BXo wx y op ∧ Hid (∀ i, i < t → P2 i = false → T1n i = T2n i) ∧ Hid (∀ i, t ≤ i → P2 i = P i)) (fun s14 _ => 4 - (intOf s14).toNat)
            case atStart => exact ⟨0, P, by omega, rfl, HL.out, HM.out, HPT.out, HBX.out, hide fun i hi => by omega, hide fun _ _ => rfl⟩
            case round =>
              clear HL HM HPT HBX
              obtain ⟨t, P2, ht, rfl, hl, hm, hpt, hbx, HLO, HHI⟩ := hrel
              have HL := hide hl
              have HM := hide hm
              have HPT := hide hpt
              have HBX := hide hbx
              clear hl hm hpt hbx
              by_cases ht4 : t < 4
              · have ht4i : (t : Int) < 4 := by omega
                go_wp2_with fail
                refine (list_any _ q G HL.out.pa).mono ?_
                rintro e w9 ⟨d1, e1, rfl, hdr, hb⟩
                replace HL := hide (HL.out.below hb)
                replace HM := hide (HM.out.below hb)
                replace HPT := hide (HPT.out.below hb)
                replace HBX := hide (HBX.out.below hb)
                have HDA := hide hdr.da.1
                clear hdr hb
                go_wp2_with fail
                refine (list_any _ q2 G2 HM.out.pa).mono ?_
                rintro e w10 ⟨d2, e2, rfl, hdr, hb⟩
                replace HL := hide (HL.out.below hb)
                replace HM := hide (HM.out.below hb)
                replace HPT := hide (HPT.out.below hb)
                replace HBX := hide (HBX.out.below hb)
                replace HDA := hide (HDA.out.below hb)
                have HDB := hide hdr.da.1
                clear hdr hb
                go_wp2_with fail
                refine (observed_any _ (t : Int) d1 d2 _ _ e1 e2 p p2 (lsN G 1792) (lsN G2 1792) W1n W2n HDA.out HDB.out rfl rfl (by omega) (by omega) HL.out.wr.wa HM.out.wr.wa HL.out.wo HM.out.wo).mono ?_
                rintro e w11 ⟨r, rfl, hr, hb⟩
                replace HL := hide (HL.out.below hb)
                replace HM := hide (HM.out.below hb)
                replace HPT := hide (HPT.out.below hb)
                replace HBX := hide (HBX.out.below hb)
                have HR := hide hr
                clear hb hr HDA HDB
                have c0 := HPT.out.c t ht4
                have f0 := HPT.out.f t
                cases r
                · have HF := hide ((Fr.refl x 0 4 w11).set (j := t) (by omega) (by omega) (.bool true))
                  have HPTn := hide (HPT.out.set ht4 true)
                  have HLn := hide (HL.out.other HF.out HAP.out.a1.2.2.2.2.2.2 (Ne.symm HAP.out.a3.1) (Ne.symm HAP.out.a3.2.1) (Ne.symm HAP.out.a3.2.2.1) HXG.out)
                  have HMn := hide (HM.out.other HF.out HAP.out.a1.2.2.2.2.2.2 (Ne.symm HAP.out.a3.2.2.2.1) (Ne.symm HAP.out.a3.2.2.2.2.1) (Ne.symm HAP.out.a3.2.2.2.2.2) HXG.out)
                  have HBXn := hide (HBX.out.keep HF.out HYN.out.2.2.2.2.2.2)
                  have HLO2 := hide (show ∀ i, i < t + 1 → upd P2 t true i = false → T1n i = T2n i from fun i hi hp => by
                    by_cases e : i = t
                    · subst e; rw [upd_same] at hp; cases hp
                    · rw [upd_ne _ _ e] at hp; exact HLO.out i (by omega) hp)
                  have HHI2 := hide (show ∀ i, t + 1 ≤ i → upd P2 t true i = P i from fun i hi => by rw [upd_ne _ _ (by omega)]; exact HHI.out i (by omega))
                  clear HF HPT HL HM HBX HR
                  go_upto_region 27 with fail
                  generalize w11.setCell ⟨x, t, none⟩ (.bool true) = w12 at *
                  clear c0 f0
                  have c0 := HPTn.out.c t ht4
                  rw [upd_same] at c0
                  go_wp2
                  go_roundw
                  case rel => exact ⟨t + 1, upd P2 t true, by omega, by simp, HLn.out, HMn.out, HPTn.out, HBXn.out, HLO2, HHI2⟩
                  case measure => simp [intOf]; omega
                · cases hp2 : P2 t
                  · rw [hp2] at c0
                    have HTE := hide (show T1n t = T2n t from HOT.out t ht4 (by rw [← HHI.out t (Nat.le_refl _)]; exact hp2) (HR.out rfl))
                    have HLO2 := hide (show ∀ i, i < t + 1 → P2 i = false → T1n i = T2n i from fun i hi hp => by
                      rcases (by omega : i < t ∨ i = t) with z | rfl
                      · exact HLO.out i z hp
                      · exact HTE.out)
                    have HHI2 := hide (show ∀ i, t + 1 ≤ i → P2 i = P i from fun i hi => HHI.out i (by omega))
                    clear hp2
                    have ct1 := fun w h => hide (table_any w b t ht4 (T1n t) h)
                    have ct2 := fun w h => hide (table_any w b2 t ht4 (T2n t) h)
                    go_upto_region 27 with fail
                    go_wp2_with fail
                    refine (ct1 _ (HL.out.bd.ta t ht4)).out.mono ?_
                    rintro e w12 ⟨ta, tc, rfl, hr8, hb8⟩
                    replace HL := hide (HL.out.below hb8)
                    replace HM := hide (HM.out.below hb8)
                    replace HPT := hide (HPT.out.below hb8)
                    replace HBX := hide (HBX.out.below hb8)
                    have HR8 := hide hr8
                    clear hr8 hb8 c0 f0
                    go_wp2_with fail
                    refine (ct2 _ (HM.out.bd.ta t ht4)).out.mono ?_
                    rintro e w13 ⟨tb, td, rfl, hr8, hb8⟩
                    replace HL := hide (HL.out.below hb8)
                    replace HM := hide (HM.out.below hb8)
                    replace HPT := hide (HPT.out.below hb8)
                    replace HBX := hide (HBX.out.below hb8)
                    replace HR8 := hide (HR8.out.below hb8)
                    have HR9 := hide hr8
                    clear hr8 hb8 ct1 ct2
                    rw [← HTE.out] at HR9 ⊢
                    have hLl : (tabN (T1n t) 64).length ≤ 64 := tab_le 64
                    go_wp2_with fail
                    refine (same_any _ _ _ ta tb _ tc td (tabN (T1n t) 64) HR8.out HR9.out rfl hLl).mono ?_
                    rintro e w14 ⟨rfl, hb8⟩
                    replace HL := hide (HL.out.below hb8)
                    replace HM := hide (HM.out.below hb8)
                    replace HPT := hide (HPT.out.below hb8)
                    replace HBX := hide (HBX.out.below hb8)
                    clear hb8 HR8 HR9
                    go_wp2
                    go_roundw
                    case rel => exact ⟨t + 1, P2, by omega, by simp, HL.out, HM.out, HPT.out, HBX.out, HLO2, HHI2⟩
                    case measure => simp [intOf]; omega
                  · rw [hp2] at c0
                    have HP2 := hide hp2
                    have HLO2 := hide (show ∀ i, i < t + 1 → P2 i = false → T1n i = T2n i from fun i hi hp => by
                      rcases (by omega : i < t ∨ i = t) with z | rfl
                      · exact HLO.out i z hp
                      · rw [HP2.out] at hp; cases hp)
                    have HHI2 := hide (show ∀ i, t + 1 ≤ i → P2 i = P i from fun i hi => HHI.out i (by omega))
                    clear hp2
                    go_wp2
                    go_roundw
                    case rel => exact ⟨t + 1, P2, by omega, by simp, HL.out, HM.out, HPT.out, HBX.out, HLO2, HHI2⟩
                    case measure => simp [intOf]; omega
              · obtain rfl : t = 4 := by omega
                rw [show ((4 : Nat) : Int) = 4 from rfl]
                have HEQ := HLO
                clear HLO HHI
                go_upto_region 30 with fail
                obtain ⟨x0, x1, x2, x3, x4, x5, x6⟩ := HBX.out.cc
                go_wp2_with fail
                refine (stepP_any _ q G HL.out.pa op HOK.out).mono ?_
                rintro e w9 ⟨rfl, h1, h2⟩
                clear x0 x1 x2 x3 x4 x5 x6
                replace HM := hide (HM.out.other h2 HAP.out.a1.2.1 (Ne.symm HAP.out.a2.2.2.2.1) (Ne.symm HAP.out.a2.2.2.2.2.1) (Ne.symm HAP.out.a2.2.2.2.2.2.1) HL.out.ge.2.1)
                replace HL := hide (HL.out.pend h2 h1 (pst_ok op HL.out.gk))
                replace HPT := hide (HPT.out.keep h2 HAP.out.a3.2.1)
                replace HBX := hide (HBX.out.keep h2 HYN.out.2.1)
                clear h1 h2
                obtain ⟨x0, x1, x2, x3, x4, x5, x6⟩ := HBX.out.cc
                go_wp2_with fail
                refine (stepP_any _ q2 G2 HM.out.pa op HOK.out).mono ?_
                rintro e w10 ⟨rfl, h1, h2⟩
                clear x0 x1 x2 x3 x4 x5 x6
                replace HL := hide (HL.out.other h2 HAP.out.a1.2.2.2.2.1 HAP.out.a2.2.1 HAP.out.a2.2.2.2.2.1 HAP.out.a2.2.2.2.2.2.2.2.1 HM.out.ge.2.1)
                replace HM := hide (HM.out.pend h2 h1 (pst_ok op HM.out.gk))
                replace HPT := hide (HPT.out.keep h2 HAP.out.a3.2.2.2.2.1)
                replace HBX := hide (HBX.out.keep h2 HYN.out.2.2.2.2.1)
                clear h1 h2
                go_wp2
                go_roundw
                case rel => exact ⟨k + 1, _, _, _, _, _, _, _, by omega, by simp, HL.out.mono (by omega), HM.out.mono (by omega), HPT.out, HEQ⟩
                case measure => simp [intOf]; omega
          · have honb : (op.on == 0) = false := by simp [hon]
            clear hon
            obtain ⟨x0, x1, x2, x3, x4, x5, x6⟩ := HBX.out.cc
            go_upto_region 17 with fail
            clear x0 x1 x2 x3 x4 x5 x6
            obtain ⟨x0, x1, x2, x3, x4, x5, x6⟩ := HBX.out.cc
            go_wp2_with fail
            refine (stepW_any _ p W HL.out.wr op HOK.out).mono ?_
            rintro e w3 ⟨rfl, h1, h2⟩
            clear x0 x1 x2 x3 x4 x5 x6
            replace HM := hide (HM.out.other h2 HAP.out.a1.1 (Ne.symm HAP.out.a2.1) (Ne.symm HAP.out.a2.2.1) (Ne.symm HAP.out.a2.2.2.1) HL.out.ge.1)
            replace HL := hide (HL.out.world h2 h1 (wst_ok op HL.out.wo))
            replace HPT := hide (HPT.out.keep h2 HAP.out.a3.1)
            replace HBX := hide (HBX.out.keep h2 HYN.out.1)
            obtain ⟨W1n, hWn⟩ : ∃ Wn, wstP W op = Wn := ⟨_, rfl⟩
            rw [hWn] at HL
            clear hWn h1 h2
            obtain ⟨x0, x1, x2, x3, x4, x5, x6⟩ := HBX.out.cc
            go_wp2_with fail
            refine (stepW_any _ p2 W2 HM.out.wr op HOK.out).mono ?_
            rintro e w4 ⟨rfl, h1, h2⟩
            clear x0 x1 x2 x3 x4 x5 x6
            replace HL := hide (HL.out.other h2 HAP.out.a1.2.2.2.1 HAP.out.a2.1 HAP.out.a2.2.2.2.1 HAP.out.a2.2.2.2.2.2.2.1 HM.out.ge.1)
            replace HM := hide (HM.out.world h2 h1 (wst_ok op HM.out.wo))
            replace HPT := hide (HPT.out.keep h2 HAP.out.a3.2.2.2.1)
            replace HBX := hide (HBX.out.keep h2 HYN.out.2.2.2.1)
            obtain ⟨W2n, hWn⟩ : ∃ Wn, wstP W2 op = Wn := ⟨_, rfl⟩
            rw [hWn] at HM
            clear hWn h1 h2
            obtain ⟨x0, x1, x2, x3, x4, x5, x6⟩ := HBX.out.cc
            go_wp2_with fail
            refine (list_any _ q G HL.out.pa).mono ?_
            rintro e w5 ⟨da, dc, rfl, hdr, hb⟩
            clear x0 x1 x2 x3 x4 x5 x6
            have HDG := hide (show ∀ g off, da = some ⟨g, off, none⟩ → g < w5.heap.size ∧ g ≠ b from fun g off e => ⟨(hdr.da.2 g off e).2, by have := (hdr.da.2 g off e).1; have := HL.out.bd.lt; omega⟩)
            replace HL := hide (HL.out.below hb)
            replace HM := hide (HM.out.below hb)
            replace HPT := hide (HPT.out.below hb)
            replace HBX := hide (HBX.out.below hb)
            have HDA := hide hdr.da.1
            have hdl : (lsN G 1792).length ≤ 1792 := lsN_len G 1792
            clear hdr hb
            go_wp2_with fail
            refine (tick_any _ b m p dX dY W1n da _ dc (lsN G 1792) TT (1 + 112 * (k : Int)) HL.out.bd HL.out.ti (by omega) HL.out.mt HL.out.ne.2.2.1 HDA.out rfl (by omega) HDG.out HL.out.wr.wa HL.out.ne.2.2.2.2.1 HL.out.wo).mono ?_
            rintro e w6 ⟨T1n, rfl, hbd, hti, htr, hfr⟩
            have HT1 := hide htr
            have HTI := hide HL.out.ti
            replace HM := hide (HM.out.other hfr HAP.out.a1.2.2.1 (Ne.symm HAP.out.a2.2.2.2.2.2.2.1) (Ne.symm HAP.out.a2.2.2.2.2.2.2.2.1) (Ne.symm HAP.out.a2.2.2.2.2.2.2.2.2) HL.out.ge.2.2)
            replace HL := hide (HL.out.board hfr hbd hti)
            replace HPT := hide (HPT.out.keep hfr HAP.out.a3.2.2.1)
            replace HBX := hide (HBX.out.keep hfr HYN.out.2.2.1)
            clear hbd hti htr hfr HDA HDG
            go_wp2_with fail
            refine (list_any _ q2 G2 HM.out.pa).mono ?_
            rintro e w7 ⟨da, dc, rfl, hdr, hb⟩
            have HDG := hide (show ∀ g off, da = some ⟨g, off, none⟩ → g < w7.heap.size ∧ g ≠ b2 from fun g off e => ⟨(hdr.da.2 g off e).2, by have := (hdr.da.2 g off e).1; have := HM.out.bd.lt; omega⟩)
            replace HL := hide (HL.out.below hb)
            replace HM := hide (HM.out.below hb)
            replace HPT := hide (HPT.out.below hb)
            replace HBX := hide (HBX.out.below hb)
            have HDA := hide hdr.da.1
            have hdl2 : (lsN G2 1792).length ≤ 1792 := lsN_len G2 1792
            clear hdr hb
            go_wp2_with fail
            refine (tick_any _ b2 m p2 dX dY W2n da _ dc (lsN G2 1792) T2 (1 + 112 * (k : Int)) HM.out.bd HM.out.ti (by omega) HM.out.mt HM.out.ne.2.2.1 HDA.out rfl (by omega) HDG.out HM.out.wr.wa HM.out.ne.2.2.2.2.1 HM.out.wo).mono ?_
            rintro e w8 ⟨T2n, rfl, hbd, hti, htr, hfr⟩
            have HT2 := hide htr
            replace HL := hide (HL.out.other hfr HAP.out.a1.2.2.2.2.2.1 HAP.out.a2.2.2.1 HAP.out.a2.2.2.2.2.2.1 HAP.out.a2.2.2.2.2.2.2.2.2 HM.out.ge.2.2)
            replace HM := hide (HM.out.board hfr hbd hti)
            replace HPT := hide (HPT.out.keep hfr HAP.out.a3.2.2.2.2.2)
            replace HBX := hide (HBX.out.keep hfr HYN.out.2.2.2.2.2.1)
            clear hbd hti htr hfr HDA HDG
            have HOT := hide (show ∀ t : Nat, t < 4 → P t = false → SameObs (lsN G 1792) (lsN G2 1792) W1n W2n (t : Int) → T1n t = T2n t from fun t ht hp hs => by
              have e := HEQ.out t ht hp
              have a := HT1.out t ht
              rw [e] at a
              exact obs_tick hs (by rw [← e]; exact (HTI.out.tk t ht).inv) a (HT2.out t ht))
            clear HT1 HT2 HTI HEQ
            go_wp2
            go_loopw [14] (fun s14 wx => ∃ (t : Nat) (P2 : Nat → Bool), t ≤ 4 ∧ s14 = .int .i64 t ∧ LS w wx m p q b W1n G T1n (1 + 112 * (k : Int) + 112) ∧ LS w wx m p2 q2 b2 W2n G2 T2n (1 + 112 * (k : Int) + 112) ∧ PT wx x P2 ∧ BXo wx y op ∧ Hid (∀ i, i < t → P2 i = false → T1n i = T2n i) ∧ Hid (∀ i, t ≤ i → P2 i = P i)) (fun s14 _ => 4 - (intOf s14).toNat)
            case atStart => exact ⟨0, P, by omega, rfl, HL.out, HM.out, HPT.out, HBX.out, hide fun i hi => by omega, hide fun _ _ => rfl⟩
            case round =>
              clear HL HM HPT HBX
              obtain ⟨t, P2, ht, rfl, hl, hm, hpt, hbx, HLO, HHI⟩ := hrel
              have HL := hide hl
              have HM := hide hm
              have HPT := hide hpt
              have HBX := hide hbx
              clear hl hm hpt hbx
              by_cases ht4 : t < 4
              · have ht4i : (t : Int) < 4 := by omega
                go_wp2_with fail
                refine (list_any _ q G HL.out.pa).mono ?_
                rintro e w9 ⟨d1, e1, rfl, hdr, hb⟩
                replace HL := hide (HL.out.below hb)
                replace HM := hide (HM.out.below hb)
                replace HPT := hide (HPT.out.below hb)
                replace HBX := hide (HBX.out.below hb)
                have HDA := hide hdr.da.1
                clear hdr hb
                go_wp2_with fail
                refine (list_any _ q2 G2 HM.out.pa).mono ?_
                rintro e w10 ⟨d2, e2, rfl, hdr, hb⟩
                replace HL := hide (HL.out.below hb)
                replace HM := hide (HM.out.below hb)
                replace HPT := hide (HPT.out.below hb)
                replace HBX := hide (HBX.out.below hb)
                replace HDA := hide (HDA.out.below hb)
                have HDB := hide hdr.da.1
                clear hdr hb
                go_wp2_with fail
                refine (observed_any _ (t : Int) d1 d2 _ _ e1 e2 p p2 (lsN G 1792) (lsN G2 1792) W1n W2n HDA.out HDB.out rfl rfl (by omega) (by omega) HL.out.wr.wa HM.out.wr.wa HL.out.wo HM.out.wo).mono ?_
                rintro e w11 ⟨r, rfl, hr, hb⟩
                replace HL := hide (HL.out.below hb)
                replace HM := hide (HM.out.below hb)
                replace HPT := hide (HPT.out.below hb)
                replace HBX := hide (HBX.out.below hb)
                have HR := hide hr
                clear hb hr HDA HDB
                have c0 := HPT.out.c t ht4
                have f0 := HPT.out.f t
                cases r
                · have HF := hide ((Fr.refl x 0 4 w11).set (j := t) (by omega) (by omega) (.bool true))
                  have HPTn := hide (HPT.out.set ht4 true)
                  have HLn := hide (HL.out.other HF.out HAP.out.a1.2.2.2.2.2.2 (Ne.symm HAP.out.a3.1) (Ne.symm HAP.out.a3.2.1) (Ne.symm HAP.out.a3.2.2.1) HXG.out)
                  have HMn := hide (HM.out.other HF.out HAP.out.a1.2.2.2.2.2.2 (Ne.symm HAP.out.a3.2.2.2.1) (Ne.symm HAP.out.a3.2.2.2.2.1) (Ne.symm HAP.out.a3.2.2.2.2.2) HXG.out)
                  have HBXn := hide (HBX.out.keep HF.out HYN.out.2.2.2.2.2.2)
                  have HLO2 := hide (show ∀ i, i < t + 1 → upd P2 t true i = false → T1n i = T2n i from fun i hi hp => by
                    by_cases e : i = t
                    · subst e; rw [upd_same] at hp; cases hp
                    · rw [upd_ne _ _ e] at hp; exact HLO.out i (by omega) hp)
                  have HHI2 := hide (show ∀ i, t + 1 ≤ i → upd P2 t true i = P i from fun i hi => by rw [upd_ne _ _ (by omega)]; exact HHI.out i (by omega))
                  clear HF HPT HL HM HBX HR
                  go_upto_region 27 with fail
                  generalize w11.setCell ⟨x, t, none⟩ (.bool true) = w12 at *
                  clear c0 f0
                  have c0 := HPTn.out.c t ht4
                  rw [upd_same] at c0
                  go_wp2
                  go_roundw
                  case rel => exact ⟨t + 1, upd P2 t true, by omega, by simp, HLn.out, HMn.out, HPTn.out, HBXn.out, HLO2, HHI2⟩
                  case measure => simp [intOf]; omega
                · cases hp2 : P2 t
                  · rw [hp2] at c0
                    have HTE := hide (show T1n t = T2n t from HOT.out t ht4 (by rw [← HHI.out t (Nat.le_refl _)]; exact hp2) (HR.out rfl))
                    have HLO2 := hide (show ∀ i, i < t + 1 → P2 i = false → T1n i = T2n i from fun i hi hp => by
                      rcases (by omega : i < t ∨ i = t) with z | rfl
                      · exact HLO.out i z hp
                      · exact HTE.out)
                    have HHI2 := hide (show ∀ i, t + 1 ≤ i → P2 i = P i from fun i hi => HHI.out i (by omega))
                    clear hp2
                    have ct1 := fun w h => hide (table_any w b t ht4 (T1n t) h)
                    have ct2 := fun w h => hide (table_any w b2 t ht4 (T2n t) h)
                    go_upto_region 27 with fail
                    go_wp2_with fail
                    refine (ct1 _ (HL.out.bd.ta t ht4)).out.mono ?_
                    rintro e w12 ⟨ta, tc, rfl, hr8, hb8⟩
                    replace HL := hide (HL.out.below hb8)
                    replace HM := hide (HM.out.below hb8)
                    replace HPT := hide (HPT.out.below hb8)
                    replace HBX := hide (HBX.out.below hb8)
                    have HR8 := hide hr8
                    clear hr8 hb8 c0 f0
                    go_wp2_with fail
                    refine (ct2 _ (HM.out.bd.ta t ht4)).out.mono ?_
                    rintro e w13 ⟨tb, td, rfl, hr8, hb8⟩
                    replace HL := hide (HL.out.below hb8)
                    replace HM := hide (HM.out.below hb8)
                    replace HPT := hide (HPT.out.below hb8)
                    replace HBX := hide (HBX.out.below hb8)
                    replace HR8 := hide (HR8.out.below hb8)
                    have HR9 := hide hr8
                    clear hr8 hb8 ct1 ct2
                    rw [← HTE.out] at HR9 ⊢
                    have hLl : (tabN (T1n t) 64).length ≤ 64 := tab_le 64
                    go_wp2_with fail
                    refine (same_any _ _ _ ta tb _ tc td (tabN (T1n t) 64) HR8.out HR9.out rfl hLl).mono ?_
                    rintro e w14 ⟨rfl, hb8⟩
                    replace HL := hide (HL.out.below hb8)
                    replace HM := hide (HM.out.below hb8)
                    replace HPT := hide (HPT.out.below hb8)
                    replace HBX := hide (HBX.out.below hb8)
                    clear hb8 HR8 HR9
                    go_wp2
                    go_roundw
                    case rel => exact ⟨t + 1, P2, by omega, by simp, HL.out, HM.out, HPT.out, HBX.out, HLO2, HHI2⟩
                    case measure => simp [intOf]; omega
                  · rw [hp2] at c0
                    have HP2 := hide hp2
                    have HLO2 := hide (show ∀ i, i < t + 1 → P2 i = false → T1n i = T2n i from fun i hi hp => by
                      rcases (by omega : i < t ∨ i = t) with z | rfl
                      · exact HLO.out i z hp
                      · rw [HP2.out] at hp; cases hp)
                    have HHI2 := hide (show ∀ i, t + 1 ≤ i → P2 i = P i from fun i hi => HHI.out i (by omega))
                    clear hp2
                    go_wp2
                    go_roundw
                    case rel => exact ⟨t + 1, P2, by omega, by simp, HL.out, HM.out, HPT.out, HBX.out, HLO2, HHI2⟩
                    case measure => simp [intOf]; omega
              · obtain rfl : t = 4 := by omega
                rw [show ((4 : Nat) : Int) = 4 from rfl]
                have HEQ := HLO
                clear HLO HHI
                go_upto_region 30 with fail
                obtain ⟨x0, x1, x2, x3, x4, x5, x6⟩ := HBX.out.cc
                go_wp2_with fail
                refine (stepP_any _ q G HL.out.pa op HOK.out).mono ?_
                rintro e w9 ⟨rfl, h1, h2⟩
                clear x0 x1 x2 x3 x4 x5 x6
                replace HM := hide (HM.out.other h2 HAP.out.a1.2.1 (Ne.symm HAP.out.a2.2.2.2.1) (Ne.symm HAP.out.a2.2.2.2.2.1) (Ne.symm HAP.out.a2.2.2.2.2.2.1) HL.out.ge.2.1)
                replace HL := hide (HL.out.pend h2 h1 (pst_ok op HL.out.gk))
                replace HPT := hide (HPT.out.keep h2 HAP.out.a3.2.1)
                replace HBX := hide (HBX.out.keep h2 HYN.out.2.1)
                clear h1 h2
                obtain ⟨x0, x1, x2, x3, x4, x5, x6⟩ := HBX.out.cc
                go_wp2_with fail
                refine (stepP_any _ q2 G2 HM.out.pa op HOK.out).mono ?_
                rintro e w10 ⟨rfl, h1, h2⟩
                clear x0 x1 x2 x3 x4 x5 x6
                replace HL := hide (HL.out.other h2 HAP.out.a1.2.2.2.2.1 HAP.out.a2.2.1 HAP.out.a2.2.2.2.2.1 HAP.out.a2.2.2.2.2.2.2.2.1 HM.out.ge.2.1)
                replace HM := hide (HM.out.pend h2 h1 (pst_ok op HM.out.gk))
                replace HPT := hide (HPT.out.keep h2 HAP.out.a3.2.2.2.2.1)
                replace HBX := hide (HBX.out.keep h2 HYN.out.2.2.2.2.1)
                clear h1 h2
                go_wp2
                go_roundw
                case rel => exact ⟨k + 1, _, _, _, _, _, _, _, by omega, by simp, HL.out.mono (by omega), HM.out.mono (by omega), HPT.out, HEQ⟩
                case measure => simp [intOf]; omega
        · have hkb : (op.kd == 2) = false := by simp [hkd]
          clear hkd
          by_cases hon : op.on = 0
          · have honb : (op.on == 0) = true := by simp [hon]
            clear hon
            obtain ⟨x0, x1, x2, x3, x4, x5, x6⟩ := HBX.out.cc
            go_upto_region 17 with fail
            clear x0 x1 x2 x3 x4 x5 x6
            obtain ⟨x0, x1, x2, x3, x4, x5, x6⟩ := HBX.out.cc
            go_wp2_with fail
            refine (stepW_any _ p W HL.out.wr op HOK.out).mono ?_
            rintro e w3 ⟨rfl, h1, h2⟩
            clear x0 x1 x2 x3 x4 x5 x6
            replace HM := hide (HM.out.other h2 HAP.out.a1.1 (Ne.symm HAP.out.a2.1) (Ne.symm HAP.out.a2.2.1) (Ne.symm HAP.out.a2.2.2.1) HL.out.ge.1)
            replace HL := hide (HL.out.world h2 h1 (wst_ok op HL.out.wo))
            replace HPT := hide (HPT.out.keep h2 HAP.out.a3.1)
            replace HBX := hide (HBX.out.keep h2 HYN.out.1)
            obtain ⟨W1n, hWn⟩ : ∃ Wn, wstP W op = Wn := ⟨_, rfl⟩
            rw [hWn] at HL
            clear hWn h1 h2
            obtain ⟨x0, x1, x2, x3, x4, x5, x6⟩ := HBX.out.cc
            go_wp2_with fail
            refine (stepW_any _ p2 W2 HM.out.wr op HOK.out).mono ?_
            rintro e w4 ⟨rfl, h1, h2⟩
            clear x0 x1 x2 x3 x4 x5 x6
            replace HL := hide (HL.out.other h2 HAP.out.a1.2.2.2.1 HAP.out.a2.1 HAP.out.a2.2.2.2.1 HAP.out.a2.2.2.2.2.2.2.1 HM.out.ge.1)
            replace HM := hide (HM.out.world h2 h1 (wst_ok op HM.out.wo))
            replace HPT := hide (HPT.out.keep h2 HAP.out.a3.2.2.2.1)
            replace HBX := hide (HBX.out.keep h2 HYN.out.2.2.2.1)
            obtain ⟨W2n, hWn⟩ : ∃ Wn, wstP W2 op = Wn := ⟨_, rfl⟩
            rw [hWn] at HM
            clear hWn h1 h2
            obtain ⟨x0, x1, x2, x3, x4, x5, x6⟩ := HBX.out.cc
            go_upto_region 30 with fail
            clear x0 x1 x2 x3 x4 x5 x6
            obtain ⟨x0, x1, x2, x3, x4, x5, x6⟩ := HBX.out.cc
            go_wp2_with fail
            refine (stepP_any _ q G HL.out.pa op HOK.out).mono ?_
            rintro e w5 ⟨rfl, h1, h2⟩
            clear x0 x1 x2 x3 x4 x5 x6
            replace HM := hide (HM.out.other h2 HAP.out.a1.2.1 (Ne.symm HAP.out.a2.2.2.2.1) (Ne.symm HAP.out.a2.2.2.2.2.1) (Ne.symm HAP.out.a2.2.2.2.2.2.1) HL.out.ge.2.1)
            replace HL := hide (HL.out.pend h2 h1 (pst_ok op HL.out.gk))
            replace HPT := hide (HPT.out.keep h2 HAP.out.a3.2.1)
            replace HBX := hide (HBX.out.keep h2 HYN.out.2.1)
            clear h1 h2
            obtain ⟨x0, x1, x2, x3, x4, x5, x6⟩ := HBX.out.cc
            go_wp2_with fail
            refine (stepP_any _ q2 G2 HM.out.pa op HOK.out).mono ?_
            rintro e w6 ⟨rfl, h1, h2⟩
            clear x0 x1 x2 x3 x4 x5 x6
            replace HL := hide (HL.out.other h2 HAP.out.a1.2.2.2.2.1 HAP.out.a2.2.1 HAP.out.a2.2.2.2.2.1 HAP.out.a2.2.2.2.2.2.2.2.1 HM.out.ge.2.1)
            replace HM := hide (HM.out.pend h2 h1 (pst_ok op HM.out.gk))
            replace HPT := hide (HPT.out.keep h2 HAP.out.a3.2.2.2.2.1)
            replace HBX := hide (HBX.out.keep h2 HYN.out.2.2.2.2.1)
            clear h1 h2
            go_wp2
            go_roundw
            case rel => exact ⟨k + 1, _, _, _, _, _, _, _, by omega, by simp, HL.out.mono (by omega), HM.out.mono (by omega), HPT.out, HEQ⟩
            case measure => simp [intOf]; omega
          · have honb : (op.on == 0) = false := by simp [hon]
            clear hon
            obtain ⟨x0, x1, x2, x3, x4, x5, x6⟩ := HBX.out.cc
            go_upto_region 18 with fail
            clear x0 x1 x2 x3 x4 x5 x6
            obtain ⟨x0, x1, x2, x3, x4, x5, x6⟩ := HBX.out.cc
            go_wp2_with fail
            refine (stepW_any _ p2 W2 HM.out.wr op HOK.out).mono ?_
            rintro e w4 ⟨rfl, h1, h2⟩
            clear x0 x1 x2 x3 x4 x5 x6
            replace HL := hide (HL.out.other h2 HAP.out.a1.2.2.2.1 HAP.out.a2.1 HAP.out.a2.2.2.2.1 HAP.out.a2.2.2.2.2.2.2.1 HM.out.ge.1)
            replace HM := hide (HM.out.world h2 h1 (wst_ok op HM.out.wo))
            replace HPT := hide (HPT.out.keep h2 HAP.out.a3.2.2.2.1)
            replace HBX := hide (HBX.out.keep h2 HYN.out.2.2.2.1)
            obtain ⟨W2n, hWn⟩ : ∃ Wn, wstP W2 op = Wn := ⟨_, rfl⟩
            rw [hWn] at HM
            clear hWn h1 h2
            obtain ⟨x0, x1, x2, x3, x4, x5, x6⟩ := HBX.out.cc
            go_upto_region 31 with fail
            clear x0 x1 x2 x3 x4 x5 x6
            obtain ⟨x0, x1, x2, x3, x4, x5, x6⟩ := HBX.out.cc
            go_wp2_with fail
            refine (stepP_any _ q2 G2 HM.out.pa op HOK.out).mono ?_
            rintro e w6 ⟨rfl, h1, h2⟩
            clear x0 x1 x2 x3 x4 x5 x6
            replace HL := hide (HL.out.other h2 HAP.out.a1.2.2.2.2.1 HAP.out.a2.2.1 HAP.out.a2.2.2.2.2.1 HAP.out.a2.2.2.2.2.2.2.2.1 HM.out.ge.2.1)
            replace HM := hide (HM.out.pend h2 h1 (pst_ok op HM.out.gk))
            replace HPT := hide (HPT.out.keep h2 HAP.out.a3.2.2.2.2.1)
            replace HBX := hide (HBX.out.keep h2 HYN.out.2.2.2.2.1)
            clear h1 h2
            go_wp2
            go_roundw
            case rel => exact ⟨k + 1, _, _, _, _, _, _, _, by omega, by simp, HL.out.mono (by omega), HM.out.mono (by omega), HPT.out, HEQ⟩
            case measure => simp [intOf]; omega
      · obtain rfl : k = n := by omega
        have hlti : ¬ (k : Int) < (k : Int) := by omega
        go_wp2
        go_ret
        exact ⟨rfl, HL.out.bel⟩
  · go_enter Try.func8, Try.ntmps8
    go_wp2_with fail
    refine (small_any _ a n cap hn).mono ?_
    rintro e w' ⟨rfl, ew⟩
    rw [ew]
    have hd : decide (n ≤ 65536) = false := by simpa using hsm
    rw [hd]
    clear hd ew w'
    go_wp2
    go_ret
    exact ⟨rfl, Below.refl _ _⟩
end Go.Proofs.Qxb6500777a
