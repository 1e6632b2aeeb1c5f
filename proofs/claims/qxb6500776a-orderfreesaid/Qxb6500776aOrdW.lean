import Derived.Test.Qxb6500776aSml
namespace Go.Proofs.Qxb6500776a
open Go.RowKit

theorem WD.app1 {w1 w2 : World} {p : Nat} {v1 v2 v' : Value} {L : List Shp} {M : List Smk} {t : Shp} (h : WD w1 p v1 v2 L M) {ob : Obj}
    (hr : w2.ownsRow 0 38 12 v' (L.length + 1) (L.flatMap Shp.vals ++ t.vals)) (hg : (w1.alloc ob).grownBy w2 v1.ownBlock) (hat : v'.ownBlock = v1.ownBlock ∨ v'.ownBlock = some (w1.heap.size + 1)) :
    WD (w2.setCell ⟨p, 0, none⟩ v') p v' v2 (L ++ [t]) M ∧ Ex (Foot p v1 v2) w1 (w2.setCell ⟨p, 0, none⟩ v') ∧ (∀ k, Foot p v' v2 k → Foot p v1 v2 k ∨ w1.heap.size ≤ k) ∧ w2.cell? ⟨p, 0, none⟩ = some v1 ∧ w2.frozen? ⟨p, 0, none⟩ = false ∧ Ex (Foot p v1 v2) w1 w2 := by
  have e1 : Ex (fun k => v1.ownBlock = some k) w1 w2 := ((Ex.refl _ w1).alloc ob).trans (Ex.ofGrown hg fun k e => e.symm)
  have hp1 : ¬ v1.ownBlock = some p := h.n1
  have hpl := h.lt (.inl rfl)
  have hp2 : v'.ownBlock ≠ some p := fun e => by
    rcases hat with z | z
    · exact hp1 (z.symm.trans e)
    · rw [e] at z; simp at z; omega
  have c0 := e1.cell hp1 h.c0
  have c1 := e1.cell hp1 h.c1
  obtain ⟨c', f', hty⟩ := h.ty
  have ty1 : w2.heap[p]? = some (.cells c' 44 f') := (e1.block p hpl hp1).trans hty
  have fr : ∀ j, w2.frozen? ⟨p, j, none⟩ = false := fun j => (e1.frozen hp1 hpl).trans (h.fr j)
  have hsz : (L ++ [t]).length = L.length + 1 := by simp
  have hfl : (L ++ [t]).flatMap Shp.vals = L.flatMap Shp.vals ++ t.vals := by simp
  have hro := own_kept h.r2 e1 (fun k hk e => h.n12 e hk)
  have ex2 : Ex (Foot p v1 v2) w1 w2 := e1.mono fun k hk => .inr (.inl hk)
  refine ⟨⟨?_, ?_, fun j => ?_, set_ty ty1 _ _, ?_, ?_⟩, ex2.set (.inl rfl) _, fun k => ?_, c0, fr _, ex2⟩
  · first | exact World.cell?_setCell_same _ _ _ c0 | (simp [go_sem, c0]; done)
  · first | exact World.cell?_setCell_same _ _ _ c1 | (simp [go_sem, c1]; done)
  · rw [set_frozen]; exact fr j
  · rw [hsz, hfl]
    exact ownsRow_setCell_other hr hp2 _
  · exact ownsRow_setCell_other hro h.n2 _
  · rintro (rfl | e | e)
    · exact .inl (.inl rfl)
    · rcases hat with z | z
      · exact .inl (.inr (.inl (z.symm.trans e)))
      · right; rw [e] at z; simp at z; omega
    · exact .inl (.inr (.inr e))
theorem WD.app2 {w1 w2 : World} {p : Nat} {v1 v2 v' : Value} {L : List Shp} {M : List Smk} {t : Smk} (h : WD w1 p v1 v2 L M) {ob : Obj}
    (hr : w2.ownsRow 0 52 3 v' (M.length + 1) (M.flatMap Smk.vals ++ t.vals)) (hg : (w1.alloc ob).grownBy w2 v2.ownBlock) (hat : v'.ownBlock = v2.ownBlock ∨ v'.ownBlock = some (w1.heap.size + 1)) :
    WD (w2.setCell ⟨p, 1, none⟩ v') p v1 v' L (M ++ [t]) ∧ Ex (Foot p v1 v2) w1 (w2.setCell ⟨p, 1, none⟩ v') ∧ (∀ k, Foot p v1 v' k → Foot p v1 v2 k ∨ w1.heap.size ≤ k) ∧ w2.cell? ⟨p, 1, none⟩ = some v2 ∧ w2.frozen? ⟨p, 1, none⟩ = false ∧ Ex (Foot p v1 v2) w1 w2 := by
  have e1 : Ex (fun k => v2.ownBlock = some k) w1 w2 := ((Ex.refl _ w1).alloc ob).trans (Ex.ofGrown hg fun k e => e.symm)
  have hp1 : ¬ v2.ownBlock = some p := h.n2
  have hpl := h.lt (.inl rfl)
  have hp2 : v'.ownBlock ≠ some p := fun e => by
    rcases hat with z | z
    · exact hp1 (z.symm.trans e)
    · rw [e] at z; simp at z; omega
  have c0 := e1.cell hp1 h.c0
  have c1 := e1.cell hp1 h.c1
  obtain ⟨c', f', hty⟩ := h.ty
  have ty1 : w2.heap[p]? = some (.cells c' 44 f') := (e1.block p hpl hp1).trans hty
  have fr : ∀ j, w2.frozen? ⟨p, j, none⟩ = false := fun j => (e1.frozen hp1 hpl).trans (h.fr j)
  have hsz : (M ++ [t]).length = M.length + 1 := by simp
  have hfl : (M ++ [t]).flatMap Smk.vals = M.flatMap Smk.vals ++ t.vals := by simp
  have hro := own_kept h.r1 e1 (fun k hk e => h.n12 hk e)
  have ex2 : Ex (Foot p v1 v2) w1 w2 := e1.mono fun k hk => .inr (.inr hk)
  refine ⟨⟨?_, ?_, fun j => ?_, set_ty ty1 _ _, ?_, ?_⟩, ex2.set (.inl rfl) _, fun k => ?_, c1, fr _, ex2⟩
  · first | exact World.cell?_setCell_same _ _ _ c0 | (simp [go_sem, c0]; done)
  · first | exact World.cell?_setCell_same _ _ _ c1 | (simp [go_sem, c1]; done)
  · rw [set_frozen]; exact fr j
  · exact ownsRow_setCell_other hro h.n1 _
  · rw [hsz, hfl]
    exact ownsRow_setCell_other hr hp2 _
  · rintro (rfl | e | e)
    · exact .inl (.inl rfl)
    · exact .inl (.inr (.inl e))
    · rcases hat with z | z
      · exact .inl (.inr (.inr (z.symm.trans e)))
      · right; rw [e] at z; simp at z; omega

theorem LW.exs {w0 wr w' : World} {p s : Nat} {v1 v2 : Value} {L : List Shp} {M : List Smk} (h : LW w0 wr p s v1 v2 L M) (e : Ex (fun k => k = s) wr w') (hc : ∃ C, CB w' s C) : LW w0 w' p s v1 v2 L M :=
  ⟨h.wd.keep e (fun k hk z => h.nf (z ▸ hk)), h.wo, hc, h.nf, h.ff, h.fs, h.bel.trans (e.below h.bel.size fun k hk z => by have := h.fs; omega)⟩
/-- Two worlds: p, and the later one b; the scanner s. -/
structure OF (w0 wr : World) (p s b : Nat) (v1 v2 : Value) (L : List Shp) (M : List Smk) (b1 b2 : Value) (Lb : List Shp) (Mb : List Smk) : Prop where
  lw : LW w0 wr p s v1 v2 L M
  wb : WD wr b b1 b2 Lb Mb
  fb : ∀ k, Foot b b1 b2 k → b ≤ k
  fp : ∀ k, Foot p v1 v2 k → k < b
  sp : s < b
  wp : w0.heap.size ≤ b
section
variable {w0 wr w' : World} {p s b : Nat} {v1 v2 b1 b2 u1 u2 : Value} {L Lb Lc : List Shp} {M Mb Mc : List Smk}
theorem OF.go (h : OF w0 wr p s b v1 v2 L M b1 b2 Lb Mb) (hw : WD w' b u1 u2 Lc Mc) (e : Ex (Foot b b1 b2) wr w') (hf : ∀ k, Foot b u1 u2 k → Foot b b1 b2 k ∨ wr.heap.size ≤ k) : OF w0 w' p s b v1 v2 L M u1 u2 Lc Mc := by
  obtain ⟨C, hC⟩ := h.lw.cb
  have hbl := h.wb.lt (.inl rfl)
  refine ⟨⟨h.lw.wd.keep e fun k hk hn => ?_, h.lw.wo, ⟨C, hC.keep e fun hn => ?_⟩, h.lw.nf, h.lw.ff, h.lw.fs, h.lw.bel.trans (e.below h.lw.bel.size fun k hk hn => ?_)⟩, hw, fun k hk => ?_, h.fp, h.sp, h.wp⟩
  · have := h.fb k hn; have := h.fp k hk; omega
  · have := h.fb s hn; have := h.sp; omega
  · have := h.fb k hn; have := h.wp; omega
  · rcases hf k hk with z | z
    · exact h.fb k z
    · omega
theorem OF.drew (h : OF w0 wr p s b v1 v2 L M b1 b2 Lb Mb) : OF w0 wr.drew p s b v1 v2 L M b1 b2 Lb Mb := h.go (h.wb.drew) ((Ex.refl _ _).drew) (fun _ hk => .inl hk)
end
theorem OF.first {w0 wr : World} {p s : Nat} {v1 v2 : Value} {L : List Shp} {M : List Smk} (h : LW w0 wr p s v1 v2 L M) : OF w0 (wr.alloc (.cells #[.slice none 0 0, .slice none 0 0] 44)) p s wr.heap.size v1 v2 L M (.slice none 0 0) (.slice none 0 0) [] [] :=
  ⟨h.below (be1 _ _), newW_wd wr, fun k hk => by have := foot_nil hk; omega, fun k hk => h.wd.lt hk, h.slt, h.bel.size⟩
def OF1 (w0 : World) (p s b : Nat) (v1 v2 : Value) (L : List Shp) (M : List Smk) (n : Nat) (sj : Value) (wr : World) : Prop :=
  ∃ (m : Nat) (b1 : Value), m ≤ n ∧ sj = .int .i64 ((m : Int) - 1) ∧ OF w0 wr p s b v1 v2 L M b1 (.slice none 0 0) (L.drop m).reverse []
def OF2 (w0 : World) (p s b : Nat) (v1 v2 : Value) (L : List Shp) (M : List Smk) (b1 : Value) (n : Nat) (sj : Value) (wr : World) : Prop :=
  ∃ (m : Nat) (b2 : Value), m ≤ n ∧ sj = .int .i64 ((m : Int) - 1) ∧ OF w0 wr p s b v1 v2 L M b1 b2 L.reverse (M.drop m).reverse
theorem rev_next {α : Type} {L : List α} {m : Nat} {t : α} (h : L[m]? = some t) : (L.drop m).reverse = (L.drop (m + 1)).reverse ++ [t] := by
  have hl := (List.getElem?_eq_some_iff.1 h).1
  have e : L.drop m = t :: L.drop (m + 1) := by
    rw [List.drop_eq_getElem_cons hl]
    congr 1
    exact (List.getElem?_eq_some_iff.1 h).2
  rw [e, List.reverse_cons]
theorem WOk.rev {L : List Shp} {M : List Smk} (h : WOk L M) : WOk L.reverse M.reverse :=
  ⟨by rw [List.map_reverse, List.nodup_iff_pairwise_ne, List.pairwise_reverse]; exact (List.nodup_iff_pairwise_ne.1 h.nd).imp fun h e => h e.symm, fun s hs => h.ok s (by simpa using hs), by simpa using h.ml, fun s hs => h.mo s (by simpa using hs)⟩
theorem see_rev (M : List Smk) (o t : Shp) (k : Nat) : seeP M.reverse o t k = seeP M o t k := by
  rcases k with _ | _ | _ | _ | k <;> simp [seeP, radP]
theorem DF_rev {L : List Shp} {M : List Smk} (o t : Shp) (k : Nat) : DF (L.filter Shp.afloat) M o t k ↔ DF (L.reverse.filter Shp.afloat) M.reverse o t k := by
  unfold DF
  rw [see_rev]
  simp [List.mem_filter]
theorem rep_rev {L : List Shp} {M : List Smk} {B B' : Brd} (ho : WOk L M) (hb : Bd (DF (L.filter Shp.afloat) M) B) (hb' : Bd (DF (L.reverse.filter Shp.afloat) M.reverse) B') : repN B 768 = repN B' 768 :=
  rep_eq (fun _ _ k hT hi hk => lk_uniq hb hb' hT hi hk (fun o t _ _ => DF_rev o t k) (DF_inj ho)) 768 (Nat.le_refl _)
set_option linter.unusedSimpArgs false in
set_option maxRecDepth 100000 in
set_option maxHeartbeats 8000000 in
theorem orderFree_walk (w : World) (a : Option Addr) (n cap : Nat) (f : Nat → Nat → Int) (hn : n ≤ 9223372036854775807) (ho : OpsAt w a n f) :
    Calls Try.prog 9 #[.slice a n cap] w fun e w' => e = .returned (.bool true) ∧ Below w.heap.size w w' := by
  have HO := hide ho
  clear ho
  by_cases hsm : n ≤ 65536
  · go_enter Try.func9, Try.ntmps9
    go_wp2_with fail
    refine (small_any _ a n cap hn).mono ?_
    rintro e w' ⟨rfl, ew⟩
    rw [ew]
    have hd : decide (n ≤ 65536) = true := by simpa using hsm
    rw [hd]
    clear hd ew w'
    go_wp2_with fail
    refine (newW_any _).mono ?_
    rintro e w' ⟨rfl, ew⟩
    rw [ew]
    clear ew w'
    go_wp2_with fail
    refine (newS_any _).mono ?_
    rintro e w' ⟨rfl, ew⟩
    rw [ew]
    clear ew w'
    have HL := hide (LW.first w)
    have hsz : (w.alloc (.cells #[.slice none 0 0, .slice none 0 0] 44)).heap.size = w.heap.size + 1 := by simp
    (try rw [hsz])
    clear hsz
    generalize (w.alloc (.cells #[.slice none 0 0, .slice none 0 0] 44)).alloc (.cells Try.zeroCells75 75) = w1 at *
    obtain ⟨s, hs⟩ : ∃ s, w.heap.size + 1 = s := ⟨_, rfl⟩
    rw [hs] at HL ⊢
    clear hs
    obtain ⟨p, hp⟩ : ∃ p, w.heap.size = p := ⟨_, rfl⟩
    rw [hp] at HL ⊢
    have HP := hide hp
    clear hp
    go_wp2
    go_loopw [5] (fun i wr => ∃ (k : Nat) (v1 v2 : Value) (L : List Shp) (M : List Smk), k ≤ n ∧ i = .int .i64 k ∧ LW w wr p s v1 v2 L M) (fun i _ => n - (intOf i).toNat)
    case atStart => exact ⟨0, _, _, _, _, Nat.zero_le _, rfl, HL.out⟩
    case round =>
      clear HL
      obtain ⟨k, v1, v2, L, M, hk, rfl, hl⟩ := hrel
      have HL := hide hl
      clear hl
      by_cases hlt : k < n
      · have hlti : (k : Int) < (n : Int) := by omega
        obtain ⟨b, off, rfl, hf⟩ := HO.out k hlt
        have hc : ∀ wx, Below w.heap.size w wx → ∀ j, j < 6 → wx.cell? ⟨b, off + k * 6 + j, none⟩ = some (.int .i64 (f k j)) := fun wx hbel j hj => (hbel.cell (World.block_lt_of_cell? _ _ (hf j hj).1)).trans (hf j hj).1
        have c0 := hc _ HL.out.bel 0 (by omega)
        rw [Nat.add_zero] at c0
        have c1 := hc _ HL.out.bel 1 (by omega)
        have c2 := hc _ HL.out.bel 2 (by omega)
        have c3 := hc _ HL.out.bel 3 (by omega)
        have c4 := hc _ HL.out.bel 4 (by omega)
        have c5 := hc _ HL.out.bel 5 (by omega)
        have b1 := (hf 1 (by omega)).2
        have b2 := (hf 2 (by omega)).2
        have HCC := hide hc
        clear hf hc
        obtain ⟨kd, hkd⟩ : ∃ kd, f k 0 = kd := ⟨_, rfl⟩
        rw [hkd] at c0
        have HKD := hide hkd
        clear hkd
        generalize f k 1 = A at *
        generalize f k 2 = Bb at *
        generalize f k 3 = Cc at *
        generalize f k 4 = Dd at *
        generalize f k 5 = Oo at *
        go_wp2_with fail
        refine (step_any _ p v1 v2 L M HL.out.wd HL.out.wo kd A Bb Cc Dd Oo b1 b2).mono ?_
        rintro e w2 hst
        obtain ⟨r0, va, vb, L2, M2, rfl, hl2⟩ := HL.out.step hst
        have HL2 := hide hl2
        clear hst hl2 HL c0 c1 c2 c3 c4 c5 b1 b2
        have c0 := HCC.out _ HL2.out.bel 0 (by omega)
        rw [Nat.add_zero, HKD.out] at c0
        by_cases h6 : kd = 6
        · rw [h6] at c0
          clear HCC h6 HKD
          go_upto_region 10 with fail
          clear c0
          go_wp2_with fail
          refine (newW_any _).mono ?_
          rintro e w' ⟨rfl, ew⟩
          rw [ew]
          clear ew w'
          have HOF := hide (OF.first HL2.out)
          obtain ⟨a1, cp1, e1⟩ := own_form HL2.out.wd.r1
          obtain ⟨a2, cp2, e2⟩ := own_form HL2.out.wd.r2
          obtain ⟨nL, hnL⟩ : ∃ nL, L2.length = nL := ⟨_, rfl⟩
          obtain ⟨nM, hnM⟩ : ∃ nM, M2.length = nM := ⟨_, rfl⟩
          have hnL48 : nL ≤ 48 := by rw [← hnL]; exact HL2.out.wo.len
          have hnM32 : nM ≤ 32 := by rw [← hnM]; exact HL2.out.wo.ml
          rw [hnL] at e1
          rw [hnM] at e2
          have HNL := hide hnL
          have HNM := hide hnM
          have E1 := hide e1
          have E2 := hide e2
          clear e1 e2 hnL hnM HL2
          generalize w2.alloc (.cells #[.slice none 0 0, .slice none 0 0] 44) = w3 at *
          obtain ⟨pb, hpb⟩ : ∃ pb, w2.heap.size = pb := ⟨_, rfl⟩
          rw [hpb] at HOF ⊢
          clear hpb
          have y0 := HOF.out.lw.wd.c0
          rw [E1.out] at y0
          go_wp2
          clear y0
          go_loopw [7] (fun sj wr => OF1 w p s pb va vb L2 M2 nL sj wr) (fun sj _ => (intOf sj + 1).toNat)
          case atStart => exact ⟨nL, .slice none 0 0, Nat.le_refl _, rfl, by rw [show L2.drop nL = [] by rw [← HNL.out]; simp]; exact HOF.out⟩
          case round =>
            clear HOF
            obtain ⟨m0, b1, hm, rfl, hof⟩ := hrel
            have HOF := hide hof
            clear hof
            by_cases hm0 : m0 = 0
            · subst hm0
              rw [show ((0 : Nat) : Int) - 1 = -1 from rfl]
              have hof := HOF.out
              rw [show L2.drop 0 = L2 from rfl] at hof
              have HOF1 := hide hof
              clear hof HOF
              have y0 := HOF1.out.lw.wd.c1
              rw [E2.out] at y0
              go_wp2
              clear y0
              go_loopw [8] (fun sj wr => OF2 w p s pb va vb L2 M2 b1 nM sj wr) (fun sj _ => (intOf sj + 1).toNat)
              case atStart => exact ⟨nM, .slice none 0 0, Nat.le_refl _, rfl, by rw [show M2.drop nM = [] by rw [← HNM.out]; simp]; exact HOF1.out⟩
              case round =>
                clear HOF1
                obtain ⟨m0, b2, hm, rfl, hof⟩ := hrel
                have HOF := hide hof
                clear hof
                by_cases hm0 : m0 = 0
                · subst hm0
                  (try rw [show ((0 : Nat) : Int) - 1 = -1 from rfl])
                  have e0 : L2.drop 0 = L2 := rfl
                  have e1' : M2.drop 0 = M2 := rfl
                  have hof := HOF.out
                  rw [e1'] at hof
                  replace HOF := hide hof
                  clear hof
                  go_wp2_with fail
                  refine (HOF.out.lw.scan).mono ?_
                  rintro e w4 ⟨ga, gn, gc, B, rfl, hdr, hgn, hbr, hbd, hex, hl4⟩
                  have HL4 := hide hl4
                  have HDR := hide hdr
                  have HGN := hide hgn
                  have HBR := hide hbr
                  have HBD := hide hbd
                  have hg768 : gn ≤ 768 := by rw [hgn]; exact repN_len B 768
                  have HWB := hide (HOF.out.wb.keep hex (fun k hk z => by have := HOF.out.fb k hk; have := HOF.out.sp; omega))
                  have HSL := hide HOF.out.lw.slt
                  have HNF := hide (show ¬ Foot pb b1 b2 s from fun z => by have := HOF.out.fb s z; have := HOF.out.sp; omega)
                  clear hl4 hdr hgn hbr hbd hex e0 e1'
                  obtain ⟨C4, hC4⟩ := HL4.out.cb
                  go_wp2_with fail
                  refine (scan_any _ s C4 pb b1 b2 L2.reverse M2.reverse hC4 HWB.out HL4.out.wo.rev HNF.out).mono ?_
                  rintro e w5 ⟨vb, B', rfl, hdr5, hbr5, hbd5, hex5⟩
                  obtain ⟨gb, gcb, rfl⟩ := own_form hdr5
                  have heq := rep_rev HL4.out.wo HBD.out hbd5
                  have hdrA : DRow w5 _ (.slice ga gn gc) (repN B 768) := own_kept HDR.out hex5 (fun k hk z => by have := (HDR.out.lt k hk).1; have := HSL.out; omega)
                  rw [← heq, ← HGN.out] at hdr5
                  have HDA := hide hdrA
                  have HDB := hide hdr5
                  have HL5 := hide (HL4.out.exs hex5 (by obtain ⟨C5, hC5, _⟩ := hbr5; exact ⟨C5, hC5⟩))
                  rw [← heq, ← HGN.out]
                  clear hdr5 hbr5 hbd5 hex5 heq hdrA hC4
                  go_wp2_with fail
                  refine (same_any _ _ _ ga gb gn gc gcb (repN B 768) HDA.out HDB.out HGN.out hg768).mono ?_
                  rintro e w6 ⟨rfl, b6⟩
                  have HL6 := hide (HL5.out.below b6)
                  clear b6
                  go_wp2
                  go_roundw
                  case rel => exact ⟨k + 1, _, _, _, _, by omega, by simp, HL6.out⟩
                  case measure => simp [intOf]; omega
                · obtain ⟨m, rfl⟩ : ∃ m, m0 = m + 1 := ⟨m0 - 1, by omega⟩
                  have hmi : ((m + 1 : Nat) : Int) - 1 = (m : Int) := by omega
                  rw [hmi]
                  clear hmi
                  obtain ⟨t, ht⟩ : ∃ t, M2[m]? = some t := ⟨_, List.getElem?_eq_getElem (by have := HNM.out; omega)⟩
                  have HT := hide ht
                  have hmn : m < nM := by omega
                  have hmni : (m : Int) < (nM : Int) := by omega
                  obtain ⟨g, c9, e3⟩ := own_some HOF.out.lw.wd.r2 (by have := HNM.out; omega)
                  rw [HNM.out, E2.out] at e3
                  cases e3
                  have hrow := HOF.out.lw.wd
                  rw [E2.out] at hrow
                  have hr := hrow.smoke ht HNM.out.symm
                  have y0 := hrow.c1
                  have HGP := hide (HOF.out.fp g (.inr (.inr (by rw [E2.out]; rfl))))
                  have k0 := hr 0 _ rfl
                  have k1 := hr 1 _ rfl
                  have k2 := hr 2 _ rfl
                  rw [Nat.add_zero] at k0
                  have zS := And.intro y0 (And.intro k0 (And.intro k1 k2))
                  obtain ⟨ba, bc, hbb⟩ := own_form HOF.out.wb.r2
                  obtain ⟨bn, hbn⟩ : ∃ bn, (M2.drop (m + 1)).reverse.length = bn := ⟨_, rfl⟩
                  have hbn48 : bn ≤ 48 := by rw [← hbn]; simp; have := HNM.out; omega
                  rw [hbn] at hbb
                  have HBN := hide hbn
                  have HBB := hide hbb
                  have yb := HOF.out.wb.c1
                  have fb := HOF.out.wb.fr 1
                  rw [hbb] at yb
                  have yba : (wr.alloc (.cells #[.int .i64 t.x, .int .i64 t.y, .int .i64 t.r] 52)).cell? ⟨pb, 1, none⟩ = some (.slice ba bn bc) := ((Ex.refl (fun _ => False) wr).alloc (.cells #[.int .i64 t.x, .int .i64 t.y, .int .i64 t.r] 52)).cell (fun e => e) yb
                  have zSa : (wr.alloc (.cells #[.int .i64 t.x, .int .i64 t.y, .int .i64 t.r] 52)).drew.cell? ⟨p, 1, none⟩ = some (.slice (some ⟨g, 0, none⟩) nM cp2) ∧ (wr.alloc (.cells #[.int .i64 t.x, .int .i64 t.y, .int .i64 t.r] 52)).drew.cell? ⟨g, m * 3, none⟩ = some (.int .i64 t.x) ∧ (wr.alloc (.cells #[.int .i64 t.x, .int .i64 t.y, .int .i64 t.r] 52)).drew.cell? ⟨g, m * 3 + 1, none⟩ = some (.int .i64 t.y) ∧ (wr.alloc (.cells #[.int .i64 t.x, .int .i64 t.y, .int .i64 t.r] 52)).drew.cell? ⟨g, m * 3 + 2, none⟩ = some (.int .i64 t.r) := ⟨((Ex.refl (fun _ => False) wr).alloc (.cells #[.int .i64 t.x, .int .i64 t.y, .int .i64 t.r] 52)).cell (fun e => e) y0, ((Ex.refl (fun _ => False) wr).alloc (.cells #[.int .i64 t.x, .int .i64 t.y, .int .i64 t.r] 52)).cell (fun e => e) k0, ((Ex.refl (fun _ => False) wr).alloc (.cells #[.int .i64 t.x, .int .i64 t.y, .int .i64 t.r] 52)).cell (fun e => e) k1, ((Ex.refl (fun _ => False) wr).alloc (.cells #[.int .i64 t.x, .int .i64 t.y, .int .i64 t.r] 52)).cell (fun e => e) k2⟩
                  have HR := hide (show (wr.alloc (.cells #[.int .i64 t.x, .int .i64 t.y, .int .i64 t.r] 52)).drew.ownsRow 0 52 3 (.slice ba bn bc) bn ((M2.drop (m + 1)).reverse.flatMap Smk.vals) by rw [← hbb, ← hbn]; exact own_kept HOF.out.wb.r2 (((Ex.refl (fun _ => False) _).alloc _).drew) (fun _ _ e => e))
                  have HNC := hide (show ∀ (j : Nat) (u : Value), t.vals[j]? = some u → (wr.alloc (.cells #[.int .i64 t.x, .int .i64 t.y, .int .i64 t.r] 52)).drew.cell? ((⟨wr.heap.size, 0, none⟩ : Addr).add j) = some u from fun j u hj => new_cells wr t.vals 52 j u hj)
                  have HV := hide (vals_one2 t)
                  have HMX := hide (show bn + 1 ≤ maxLen ∧ (bn + 1) * 24 ≤ 140737488355328 by unfold maxLen; omega)
                  obtain ⟨i0, hi0, hz0, hz1, hz2⟩ : ∃ i0, Try.prog.info? 52 = some i0 ∧ i0.zero = some (.agg #[.int .i64 0, .int .i64 0, .int .i64 0]) ∧ i0.size = 3 ∧ i0.bytes = 24 := ⟨_, rfl, rfl, rfl, rfl⟩
                  clear hr hrow ht hbb hbn
                  go_upto_region 18 with fail
                  refine wp_region_held_drew (S := fun w' => w'.cell? ⟨p, 1, none⟩ = some (.slice (some ⟨g, 0, none⟩) nM cp2) ∧ w'.cell? ⟨g, m * 3, none⟩ = some (.int .i64 t.x) ∧ w'.cell? ⟨g, m * 3 + 1, none⟩ = some (.int .i64 t.y) ∧ w'.cell? ⟨g, m * 3 + 2, none⟩ = some (.int .i64 t.r)) (by kernel_rfl) zS (fun hHeld => ?_)
                  refine wpAnyH_take (i := 0) (v := ?_) rfl (by kernel_rfl) (by kernel_rfl) (by kernel_rfl) (fun _ _ _ h => h) (Or.inl ⟨by rfl, ?_⟩) (by assumption) ?_
                  rotate_left
                  · (intro w hSw; (try dsimp only at hSw); go_simp; try (with_reducible rfl))
                  try simp only [Act.put, List.getElem_toArray, List.getElem_cons_zero, List.getElem_cons_succ, List.setIfInBounds_toArray, List.set_cons_zero, List.set_cons_succ]
                  refine wpAnyH_take (i := 1) (v := ?_) rfl (by kernel_rfl) (by kernel_rfl) (by kernel_rfl) (fun _ _ _ h => h) (Or.inl ⟨by rfl, ?_⟩) (by assumption) ?_
                  rotate_left
                  · (intro w hSw; (try dsimp only at hSw); go_simp; try (with_reducible rfl))
                  try simp only [Act.put, List.getElem_toArray, List.getElem_cons_zero, List.getElem_cons_succ, List.setIfInBounds_toArray, List.set_cons_zero, List.set_cons_succ]
                  refine wpAnyH_take (i := 2) (v := ?_) rfl (by kernel_rfl) (by kernel_rfl) (by kernel_rfl) (fun _ _ _ h => h) (Or.inl ⟨by rfl, ?_⟩) (by assumption) ?_
                  rotate_left
                  · (intro w hSw; (try dsimp only at hSw); go_simp; try (with_reducible rfl))
                  try simp only [Act.put, List.getElem_toArray, List.getElem_cons_zero, List.getElem_cons_succ, List.setIfInBounds_toArray, List.set_cons_zero, List.set_cons_succ]
                  refine wpAnyH_take (i := 3) (v := ?_) rfl (by kernel_rfl) (by kernel_rfl) (by kernel_rfl) (fun _ _ _ h => h) (Or.inl ⟨by rfl, ?_⟩) (by assumption) ?_
                  rotate_left
                  · (intro w hSw; (try dsimp only at hSw); go_simp; try (with_reducible rfl))
                  try simp only [Act.put, List.getElem_toArray, List.getElem_cons_zero, List.getElem_cons_succ, List.setIfInBounds_toArray, List.set_cons_zero, List.set_cons_succ]
                  refine wpAnyH_take (i := 5) (v := ?_) rfl (by kernel_rfl) (by kernel_rfl) (by kernel_rfl) (fun _ _ _ h => h) (Or.inl ⟨by rfl, ?_⟩) (by assumption) ?_
                  rotate_left
                  · (intro w hSw; (try dsimp only at hSw); go_simp; try (with_reducible rfl))
                  try simp only [Act.put, List.getElem_toArray, List.getElem_cons_zero, List.getElem_cons_succ, List.setIfInBounds_toArray, List.set_cons_zero, List.set_cons_succ]
                  refine wpAnyH_take (i := 6) (v := ?_) rfl (by kernel_rfl) (by kernel_rfl) (by kernel_rfl) (fun _ _ _ h => h) (Or.inl ⟨by rfl, ?_⟩) (by assumption) ?_
                  rotate_left
                  · (intro w hSw; (try dsimp only at hSw); go_simp; try (with_reducible rfl))
                  try simp only [Act.put, List.getElem_toArray, List.getElem_cons_zero, List.getElem_cons_succ, List.setIfInBounds_toArray, List.set_cons_zero, List.set_cons_succ]
                  refine wpAnyH_take (i := 7) (v := ?_) rfl (by kernel_rfl) (by kernel_rfl) (by kernel_rfl) (fun _ _ _ h => h) (Or.inl ⟨by rfl, ?_⟩) (by assumption) ?_
                  rotate_left
                  · (intro w hSw; (try dsimp only at hSw); go_simp; try (with_reducible rfl))
                  try simp only [Act.put, List.getElem_toArray, List.getElem_cons_zero, List.getElem_cons_succ, List.setIfInBounds_toArray, List.set_cons_zero, List.set_cons_succ]
                  refine wpAnyH_take (i := 8) (v := ?_) rfl (by kernel_rfl) (by kernel_rfl) (by kernel_rfl) (fun _ _ _ h => h) (Or.inl ⟨by rfl, ?_⟩) (by assumption) ?_
                  rotate_left
                  · (intro w hSw; (try dsimp only at hSw); go_simp; try (with_reducible rfl))
                  try simp only [Act.put, List.getElem_toArray, List.getElem_cons_zero, List.getElem_cons_succ, List.setIfInBounds_toArray, List.set_cons_zero, List.set_cons_succ]
                  refine wpAnyH_take (i := 9) (v := ?_) rfl (by kernel_rfl) (by kernel_rfl) (by kernel_rfl) (fun _ _ _ h => h) (Or.inl ⟨by rfl, ?_⟩) (by assumption) ?_
                  rotate_left
                  · (intro w hSw; (try dsimp only at hSw); go_simp; try (with_reducible rfl))
                  try simp only [Act.put, List.getElem_toArray, List.getElem_cons_zero, List.getElem_cons_succ, List.setIfInBounds_toArray, List.set_cons_zero, List.set_cons_succ]
                  refine wpAnyH_take (i := 10) (v := ?_) rfl (by kernel_rfl) (by kernel_rfl) (by kernel_rfl) (fun _ _ _ h => h) (Or.inl ⟨by rfl, ?_⟩) (by assumption) ?_
                  rotate_left
                  · (intro w hSw; (try dsimp only at hSw); go_simp; try (with_reducible rfl))
                  try simp only [Act.put, List.getElem_toArray, List.getElem_cons_zero, List.getElem_cons_succ, List.setIfInBounds_toArray, List.set_cons_zero, List.set_cons_succ]
                  refine wpAnyH_take (i := 11) (v := ?_) rfl (by kernel_rfl) (by kernel_rfl) (by kernel_rfl) (fun _ _ _ h => h) (Or.inl ⟨by rfl, ?_⟩) (by assumption) ?_
                  rotate_left
                  · (intro w hSw; (try dsimp only at hSw); go_simp; try (with_reducible rfl))
                  try simp only [Act.put, List.getElem_toArray, List.getElem_cons_zero, List.getElem_cons_succ, List.setIfInBounds_toArray, List.set_cons_zero, List.set_cons_succ]
                  refine wpAnyH_ready (rs := [4, 12]) (by kernel_rfl) (by simp) ?_
                  refine (AllReadyH.cons rfl (fun K hK => ?_) (AllReadyH.cons rfl (fun K hK => ?_) AllReadyH.nil))
                  · go_simp
                    refine hK.out _ _ ?_ (fun hHeld => ?_)
                    · (first | exact zS | exact zSa | exact hS3 | exact hS4 | (simp [*, go_sem]; done))
                    clear hK K
                    try simp only [Act.put, List.getElem_toArray, List.getElem_cons_zero, List.getElem_cons_succ, List.setIfInBounds_toArray, List.set_cons_zero, List.set_cons_succ]
                    refine wpAnyH_ready (rs := [12]) (by kernel_rfl) (by simp) ?_
                    refine (AllReadyH.cons rfl (fun K hK => ?_) AllReadyH.nil)
                    · go_simp
                      refine hK.out _ _ ?_ (fun hHeld => ?_)
                      · (first | exact zS | exact zSa | exact hS3 | exact hS4 | (simp [*, go_sem]; done))
                      clear hK K
                      try simp only [Act.put, List.getElem_toArray, List.getElem_cons_zero, List.getElem_cons_succ, List.setIfInBounds_toArray, List.set_cons_zero, List.set_cons_succ]
                      refine wpAnyH_ready (rs := [13]) (by kernel_rfl) (by simp) ?_
                      refine (AllReadyH.cons rfl (fun K hK => ?_) AllReadyH.nil)
                      · refine step_append_lies _ rfl (.tmp 74) (.tmp 82) 42 rfl 0 52 i0 _ 3 24 Try.underlying42 hi0 hz0 hz1 hz2 rfl (by decide) (.slice ba bn bc) bn ((M2.drop (m + 1)).reverse.flatMap Smk.vals) rfl HR.out ⟨wr.heap.size, 0, none⟩ 1 1 (t.vals) rfl rfl HNC.out HV.out (by decide) HMX.out.1 HMX.out.2 (Nat.zero_le _) _ rfl ?_
                        intro g2 cap2 w2 hr hg hat hlt2
                        replace hg := grown_drew hg
                        rw [← HBB.out] at hg hat
                        have hr2 : w2.ownsRow 0 52 3 (.slice (some ⟨g2, 0, none⟩) (bn + 1) cap2) ((M2.drop (m + 1)).reverse.length + 1) ((M2.drop (m + 1)).reverse.flatMap Smk.vals ++ t.vals) := by rw [HBN.out]; exact hr
                        have hA := HOF.out.wb.app2 hr2 hg (by rcases hat with z | z; exact .inl z.symm; exact .inr (by rw [z]; simp [Value.ownBlock]))
                        have y1 := hA.2.2.2.1
                        have y2 := hA.2.2.2.2.1
                        have ex3 := hA.2.2.2.2.2
                        have HOF2 := hide (HOF.out.go hA.1 hA.2.1 hA.2.2.1)
                        have hS3 : w2.cell? ⟨p, 1, none⟩ = some (.slice (some ⟨g, 0, none⟩) nM cp2) ∧ w2.cell? ⟨g, m * 3, none⟩ = some (.int .i64 t.x) ∧ w2.cell? ⟨g, m * 3 + 1, none⟩ = some (.int .i64 t.y) ∧ w2.cell? ⟨g, m * 3 + 2, none⟩ = some (.int .i64 t.r) := ⟨ex3.cell (fun z => by have := HOF.out.fb p z; have := HOF.out.fp p (.inl rfl); omega) zS.1, ex3.cell (fun z => by have := HOF.out.fb g z; have := HGP.out; omega) zS.2.1, ex3.cell (fun z => by have := HOF.out.fb g z; have := HGP.out; omega) zS.2.2.1, ex3.cell (fun z => by have := HOF.out.fb g z; have := HGP.out; omega) zS.2.2.2⟩
                        have hS4 : (w2.setCell ⟨pb, 1, none⟩ (.slice (some ⟨g2, 0, none⟩) (bn + 1) cap2)).drew.cell? ⟨p, 1, none⟩ = some (.slice (some ⟨g, 0, none⟩) nM cp2) ∧ (w2.setCell ⟨pb, 1, none⟩ (.slice (some ⟨g2, 0, none⟩) (bn + 1) cap2)).drew.cell? ⟨g, m * 3, none⟩ = some (.int .i64 t.x) ∧ (w2.setCell ⟨pb, 1, none⟩ (.slice (some ⟨g2, 0, none⟩) (bn + 1) cap2)).drew.cell? ⟨g, m * 3 + 1, none⟩ = some (.int .i64 t.y) ∧ (w2.setCell ⟨pb, 1, none⟩ (.slice (some ⟨g2, 0, none⟩) (bn + 1) cap2)).drew.cell? ⟨g, m * 3 + 2, none⟩ = some (.int .i64 t.r) := by
                          have hpp : p ≠ pb := by have := HOF.out.fp p (.inl rfl); omega
                          have hgp : g ≠ pb := by have := HGP.out; omega
                          obtain ⟨q0, q1, q2, q3⟩ := hS3
                          exact ⟨(set_cell_ne _ _ _ _ _ _ hpp).trans q0, (set_cell_ne _ _ _ _ _ _ hgp).trans q1, (set_cell_ne _ _ _ _ _ _ hgp).trans q2, (set_cell_ne _ _ _ _ _ _ hgp).trans q3⟩
                        clear hr hr2 hg hat hA ex3
                        refine hK.out _ _ ?_ (fun hHeld => ?_)
                        · (first | exact zS | exact zSa | exact hS3 | exact hS4 | (simp [*, go_sem]; done))
                        clear hK K
                        try simp only [Act.put, List.getElem_toArray, List.getElem_cons_zero, List.getElem_cons_succ, List.setIfInBounds_toArray, List.set_cons_zero, List.set_cons_succ]
                        refine wpAnyH_take (i := 14) (v := ?_) rfl (by kernel_rfl) (by kernel_rfl) (by kernel_rfl) (fun _ _ _ h => h) (Or.inl ⟨by rfl, ?_⟩) (by assumption) ?_
                        rotate_left
                        · (intro w hSw; (try dsimp only at hSw); go_simp; try (with_reducible rfl))
                        try simp only [Act.put, List.getElem_toArray, List.getElem_cons_zero, List.getElem_cons_succ, List.setIfInBounds_toArray, List.set_cons_zero, List.set_cons_succ]
                        refine wpAnyH_take (i := 15) (v := ?_) rfl (by kernel_rfl) (by kernel_rfl) (by kernel_rfl) (fun _ _ _ h => h) (Or.inl ⟨by rfl, ?_⟩) (by assumption) ?_
                        rotate_left
                        · (intro w hSw; (try dsimp only at hSw); go_simp; try (with_reducible rfl))
                        try simp only [Act.put, List.getElem_toArray, List.getElem_cons_zero, List.getElem_cons_succ, List.setIfInBounds_toArray, List.set_cons_zero, List.set_cons_succ]
                        refine wpAnyH_ready (rs := [16]) (by kernel_rfl) (by simp) ?_
                        refine (AllReadyH.cons rfl (fun K hK => ?_) AllReadyH.nil)
                        · go_simp
                          refine hK.out _ _ ?_ (fun hHeld => ?_)
                          · (first | exact zS | exact zSa | exact hS3 | exact hS4 | (simp [*, go_sem]; done))
                          clear hK K
                          try simp only [Act.put, List.getElem_toArray, List.getElem_cons_zero, List.getElem_cons_succ, List.setIfInBounds_toArray, List.set_cons_zero, List.set_cons_succ]
                          refine wpAnyH_done (by kernel_rfl) ?_ _
                          go_wp2
                          go_roundw
                          case rel =>
                            refine ⟨m, .slice (some ⟨g2, 0, none⟩) (bn + 1) cap2, by omega, by congr 1 <;> simp, ?_⟩
                            rw [rev_next HT.out]
                            first | exact HOF2.out | exact HOF2.out.drew
                          case measure => first | (simp [intOf]; done) | (simp [intOf]; omega)
                  · go_simp
                    refine hK.out _ _ ?_ (fun hHeld => ?_)
                    · (first | exact zS | exact zSa | exact hS3 | exact hS4 | (simp [*, go_sem]; done))
                    clear hK K
                    try simp only [Act.put, List.getElem_toArray, List.getElem_cons_zero, List.getElem_cons_succ, List.setIfInBounds_toArray, List.set_cons_zero, List.set_cons_succ]
                    refine wpAnyH_ready (rs := [4]) (by kernel_rfl) (by simp) ?_
                    refine (AllReadyH.cons rfl (fun K hK => ?_) AllReadyH.nil)
                    · go_simp
                      refine hK.out _ _ ?_ (fun hHeld => ?_)
                      · (first | exact zS | exact zSa | exact hS3 | exact hS4 | (simp [*, go_sem]; done))
                      clear hK K
                      try simp only [Act.put, List.getElem_toArray, List.getElem_cons_zero, List.getElem_cons_succ, List.setIfInBounds_toArray, List.set_cons_zero, List.set_cons_succ]
                      refine wpAnyH_ready (rs := [13]) (by kernel_rfl) (by simp) ?_
                      refine (AllReadyH.cons rfl (fun K hK => ?_) AllReadyH.nil)
                      · refine step_append_lies _ rfl (.tmp 74) (.tmp 82) 42 rfl 0 52 i0 _ 3 24 Try.underlying42 hi0 hz0 hz1 hz2 rfl (by decide) (.slice ba bn bc) bn ((M2.drop (m + 1)).reverse.flatMap Smk.vals) rfl HR.out ⟨wr.heap.size, 0, none⟩ 1 1 (t.vals) rfl rfl HNC.out HV.out (by decide) HMX.out.1 HMX.out.2 (Nat.zero_le _) _ rfl ?_
                        intro g2 cap2 w2 hr hg hat hlt2
                        replace hg := grown_drew hg
                        rw [← HBB.out] at hg hat
                        have hr2 : w2.ownsRow 0 52 3 (.slice (some ⟨g2, 0, none⟩) (bn + 1) cap2) ((M2.drop (m + 1)).reverse.length + 1) ((M2.drop (m + 1)).reverse.flatMap Smk.vals ++ t.vals) := by rw [HBN.out]; exact hr
                        have hA := HOF.out.wb.app2 hr2 hg (by rcases hat with z | z; exact .inl z.symm; exact .inr (by rw [z]; simp [Value.ownBlock]))
                        have y1 := hA.2.2.2.1
                        have y2 := hA.2.2.2.2.1
                        have ex3 := hA.2.2.2.2.2
                        have HOF2 := hide (HOF.out.go hA.1 hA.2.1 hA.2.2.1)
                        have hS3 : w2.cell? ⟨p, 1, none⟩ = some (.slice (some ⟨g, 0, none⟩) nM cp2) ∧ w2.cell? ⟨g, m * 3, none⟩ = some (.int .i64 t.x) ∧ w2.cell? ⟨g, m * 3 + 1, none⟩ = some (.int .i64 t.y) ∧ w2.cell? ⟨g, m * 3 + 2, none⟩ = some (.int .i64 t.r) := ⟨ex3.cell (fun z => by have := HOF.out.fb p z; have := HOF.out.fp p (.inl rfl); omega) zS.1, ex3.cell (fun z => by have := HOF.out.fb g z; have := HGP.out; omega) zS.2.1, ex3.cell (fun z => by have := HOF.out.fb g z; have := HGP.out; omega) zS.2.2.1, ex3.cell (fun z => by have := HOF.out.fb g z; have := HGP.out; omega) zS.2.2.2⟩
                        have hS4 : (w2.setCell ⟨pb, 1, none⟩ (.slice (some ⟨g2, 0, none⟩) (bn + 1) cap2)).drew.cell? ⟨p, 1, none⟩ = some (.slice (some ⟨g, 0, none⟩) nM cp2) ∧ (w2.setCell ⟨pb, 1, none⟩ (.slice (some ⟨g2, 0, none⟩) (bn + 1) cap2)).drew.cell? ⟨g, m * 3, none⟩ = some (.int .i64 t.x) ∧ (w2.setCell ⟨pb, 1, none⟩ (.slice (some ⟨g2, 0, none⟩) (bn + 1) cap2)).drew.cell? ⟨g, m * 3 + 1, none⟩ = some (.int .i64 t.y) ∧ (w2.setCell ⟨pb, 1, none⟩ (.slice (some ⟨g2, 0, none⟩) (bn + 1) cap2)).drew.cell? ⟨g, m * 3 + 2, none⟩ = some (.int .i64 t.r) := by
                          have hpp : p ≠ pb := by have := HOF.out.fp p (.inl rfl); omega
                          have hgp : g ≠ pb := by have := HGP.out; omega
                          obtain ⟨q0, q1, q2, q3⟩ := hS3
                          exact ⟨(set_cell_ne _ _ _ _ _ _ hpp).trans q0, (set_cell_ne _ _ _ _ _ _ hgp).trans q1, (set_cell_ne _ _ _ _ _ _ hgp).trans q2, (set_cell_ne _ _ _ _ _ _ hgp).trans q3⟩
                        clear hr hr2 hg hat hA ex3
                        refine hK.out _ _ ?_ (fun hHeld => ?_)
                        · (first | exact zS | exact zSa | exact hS3 | exact hS4 | (simp [*, go_sem]; done))
                        clear hK K
                        try simp only [Act.put, List.getElem_toArray, List.getElem_cons_zero, List.getElem_cons_succ, List.setIfInBounds_toArray, List.set_cons_zero, List.set_cons_succ]
                        refine wpAnyH_take (i := 14) (v := ?_) rfl (by kernel_rfl) (by kernel_rfl) (by kernel_rfl) (fun _ _ _ h => h) (Or.inl ⟨by rfl, ?_⟩) (by assumption) ?_
                        rotate_left
                        · (intro w hSw; (try dsimp only at hSw); go_simp; try (with_reducible rfl))
                        try simp only [Act.put, List.getElem_toArray, List.getElem_cons_zero, List.getElem_cons_succ, List.setIfInBounds_toArray, List.set_cons_zero, List.set_cons_succ]
                        refine wpAnyH_take (i := 15) (v := ?_) rfl (by kernel_rfl) (by kernel_rfl) (by kernel_rfl) (fun _ _ _ h => h) (Or.inl ⟨by rfl, ?_⟩) (by assumption) ?_
                        rotate_left
                        · (intro w hSw; (try dsimp only at hSw); go_simp; try (with_reducible rfl))
                        try simp only [Act.put, List.getElem_toArray, List.getElem_cons_zero, List.getElem_cons_succ, List.setIfInBounds_toArray, List.set_cons_zero, List.set_cons_succ]
                        refine wpAnyH_ready (rs := [16]) (by kernel_rfl) (by simp) ?_
                        refine (AllReadyH.cons rfl (fun K hK => ?_) AllReadyH.nil)
                        · go_simp
                          refine hK.out _ _ ?_ (fun hHeld => ?_)
                          · (first | exact zS | exact zSa | exact hS3 | exact hS4 | (simp [*, go_sem]; done))
                          clear hK K
                          try simp only [Act.put, List.getElem_toArray, List.getElem_cons_zero, List.getElem_cons_succ, List.setIfInBounds_toArray, List.set_cons_zero, List.set_cons_succ]
                          refine wpAnyH_done (by kernel_rfl) ?_ _
                          go_wp2
                          go_roundw
                          case rel =>
                            refine ⟨m, .slice (some ⟨g2, 0, none⟩) (bn + 1) cap2, by omega, by congr 1 <;> simp, ?_⟩
                            rw [rev_next HT.out]
                            first | exact HOF2.out | exact HOF2.out.drew
                          case measure => first | (simp [intOf]; done) | (simp [intOf]; omega)
            · obtain ⟨m, rfl⟩ : ∃ m, m0 = m + 1 := ⟨m0 - 1, by omega⟩
              have hmi : ((m + 1 : Nat) : Int) - 1 = (m : Int) := by omega
              rw [hmi]
              clear hmi
              obtain ⟨t, ht⟩ : ∃ t, L2[m]? = some t := ⟨_, List.getElem?_eq_getElem (by have := HNL.out; omega)⟩
              have HT := hide ht
              have hmn : m < nL := by omega
              have hmni : (m : Int) < (nL : Int) := by omega
              obtain ⟨g, c9, e3⟩ := own_some HOF.out.lw.wd.r1 (by have := HNL.out; omega)
              rw [HNL.out, E1.out] at e3
              cases e3
              have hrow := HOF.out.lw.wd
              rw [E1.out] at hrow
              have hr := hrow.ship ht HNL.out.symm
              have y0 := hrow.c0
              have HGP := hide (HOF.out.fp g (.inr (.inl (by rw [E1.out]; rfl))))
              have k0 := hr 0 _ rfl
              have k1 := hr 1 _ rfl
              have k2 := hr 2 _ rfl
              have k3 := hr 3 _ rfl
              have k4 := hr 4 _ rfl
              have k5 := hr 5 _ rfl
              have k6 := hr 6 _ rfl
              have k7 := hr 7 _ rfl
              have k8 := hr 8 _ rfl
              have k9 := hr 9 _ rfl
              have k10 := hr 10 _ rfl
              have k11 := hr 11 _ rfl
              rw [Nat.add_zero] at k0
              have zS := And.intro y0 (And.intro k0 (And.intro k1 (And.intro k2 (And.intro k3 (And.intro k4 (And.intro k5 (And.intro k6 (And.intro k7 (And.intro k8 (And.intro k9 (And.intro k10 k11)))))))))))
              obtain ⟨ba, bc, hbb⟩ := own_form HOF.out.wb.r1
              obtain ⟨bn, hbn⟩ : ∃ bn, (L2.drop (m + 1)).reverse.length = bn := ⟨_, rfl⟩
              have hbn48 : bn ≤ 48 := by rw [← hbn]; simp; have := HNL.out; omega
              rw [hbn] at hbb
              have HBN := hide hbn
              have HBB := hide hbb
              have yb := HOF.out.wb.c0
              have fb := HOF.out.wb.fr 0
              rw [hbb] at yb
              have yba : (wr.alloc (.cells #[.int .i64 t.id, .int .i64 t.team, .int .i64 t.x, .int .i64 t.y, .int .i64 t.depth, .int .i64 t.speed, .int .i64 t.mast, .int .i64 t.noise, .bool t.afloat, .bool t.radar, .bool t.sonar, .bool t.ping] 38)).cell? ⟨pb, 0, none⟩ = some (.slice ba bn bc) := ((Ex.refl (fun _ => False) wr).alloc (.cells #[.int .i64 t.id, .int .i64 t.team, .int .i64 t.x, .int .i64 t.y, .int .i64 t.depth, .int .i64 t.speed, .int .i64 t.mast, .int .i64 t.noise, .bool t.afloat, .bool t.radar, .bool t.sonar, .bool t.ping] 38)).cell (fun e => e) yb
              have zSa : (wr.alloc (.cells #[.int .i64 t.id, .int .i64 t.team, .int .i64 t.x, .int .i64 t.y, .int .i64 t.depth, .int .i64 t.speed, .int .i64 t.mast, .int .i64 t.noise, .bool t.afloat, .bool t.radar, .bool t.sonar, .bool t.ping] 38)).drew.cell? ⟨p, 0, none⟩ = some (.slice (some ⟨g, 0, none⟩) nL cp1) ∧ (wr.alloc (.cells #[.int .i64 t.id, .int .i64 t.team, .int .i64 t.x, .int .i64 t.y, .int .i64 t.depth, .int .i64 t.speed, .int .i64 t.mast, .int .i64 t.noise, .bool t.afloat, .bool t.radar, .bool t.sonar, .bool t.ping] 38)).drew.cell? ⟨g, m * 12, none⟩ = some (.int .i64 t.id) ∧ (wr.alloc (.cells #[.int .i64 t.id, .int .i64 t.team, .int .i64 t.x, .int .i64 t.y, .int .i64 t.depth, .int .i64 t.speed, .int .i64 t.mast, .int .i64 t.noise, .bool t.afloat, .bool t.radar, .bool t.sonar, .bool t.ping] 38)).drew.cell? ⟨g, m * 12 + 1, none⟩ = some (.int .i64 t.team) ∧ (wr.alloc (.cells #[.int .i64 t.id, .int .i64 t.team, .int .i64 t.x, .int .i64 t.y, .int .i64 t.depth, .int .i64 t.speed, .int .i64 t.mast, .int .i64 t.noise, .bool t.afloat, .bool t.radar, .bool t.sonar, .bool t.ping] 38)).drew.cell? ⟨g, m * 12 + 2, none⟩ = some (.int .i64 t.x) ∧ (wr.alloc (.cells #[.int .i64 t.id, .int .i64 t.team, .int .i64 t.x, .int .i64 t.y, .int .i64 t.depth, .int .i64 t.speed, .int .i64 t.mast, .int .i64 t.noise, .bool t.afloat, .bool t.radar, .bool t.sonar, .bool t.ping] 38)).drew.cell? ⟨g, m * 12 + 3, none⟩ = some (.int .i64 t.y) ∧ (wr.alloc (.cells #[.int .i64 t.id, .int .i64 t.team, .int .i64 t.x, .int .i64 t.y, .int .i64 t.depth, .int .i64 t.speed, .int .i64 t.mast, .int .i64 t.noise, .bool t.afloat, .bool t.radar, .bool t.sonar, .bool t.ping] 38)).drew.cell? ⟨g, m * 12 + 4, none⟩ = some (.int .i64 t.depth) ∧ (wr.alloc (.cells #[.int .i64 t.id, .int .i64 t.team, .int .i64 t.x, .int .i64 t.y, .int .i64 t.depth, .int .i64 t.speed, .int .i64 t.mast, .int .i64 t.noise, .bool t.afloat, .bool t.radar, .bool t.sonar, .bool t.ping] 38)).drew.cell? ⟨g, m * 12 + 5, none⟩ = some (.int .i64 t.speed) ∧ (wr.alloc (.cells #[.int .i64 t.id, .int .i64 t.team, .int .i64 t.x, .int .i64 t.y, .int .i64 t.depth, .int .i64 t.speed, .int .i64 t.mast, .int .i64 t.noise, .bool t.afloat, .bool t.radar, .bool t.sonar, .bool t.ping] 38)).drew.cell? ⟨g, m * 12 + 6, none⟩ = some (.int .i64 t.mast) ∧ (wr.alloc (.cells #[.int .i64 t.id, .int .i64 t.team, .int .i64 t.x, .int .i64 t.y, .int .i64 t.depth, .int .i64 t.speed, .int .i64 t.mast, .int .i64 t.noise, .bool t.afloat, .bool t.radar, .bool t.sonar, .bool t.ping] 38)).drew.cell? ⟨g, m * 12 + 7, none⟩ = some (.int .i64 t.noise) ∧ (wr.alloc (.cells #[.int .i64 t.id, .int .i64 t.team, .int .i64 t.x, .int .i64 t.y, .int .i64 t.depth, .int .i64 t.speed, .int .i64 t.mast, .int .i64 t.noise, .bool t.afloat, .bool t.radar, .bool t.sonar, .bool t.ping] 38)).drew.cell? ⟨g, m * 12 + 8, none⟩ = some (.bool t.afloat) ∧ (wr.alloc (.cells #[.int .i64 t.id, .int .i64 t.team, .int .i64 t.x, .int .i64 t.y, .int .i64 t.depth, .int .i64 t.speed, .int .i64 t.mast, .int .i64 t.noise, .bool t.afloat, .bool t.radar, .bool t.sonar, .bool t.ping] 38)).drew.cell? ⟨g, m * 12 + 9, none⟩ = some (.bool t.radar) ∧ (wr.alloc (.cells #[.int .i64 t.id, .int .i64 t.team, .int .i64 t.x, .int .i64 t.y, .int .i64 t.depth, .int .i64 t.speed, .int .i64 t.mast, .int .i64 t.noise, .bool t.afloat, .bool t.radar, .bool t.sonar, .bool t.ping] 38)).drew.cell? ⟨g, m * 12 + 10, none⟩ = some (.bool t.sonar) ∧ (wr.alloc (.cells #[.int .i64 t.id, .int .i64 t.team, .int .i64 t.x, .int .i64 t.y, .int .i64 t.depth, .int .i64 t.speed, .int .i64 t.mast, .int .i64 t.noise, .bool t.afloat, .bool t.radar, .bool t.sonar, .bool t.ping] 38)).drew.cell? ⟨g, m * 12 + 11, none⟩ = some (.bool t.ping) := ⟨((Ex.refl (fun _ => False) wr).alloc (.cells #[.int .i64 t.id, .int .i64 t.team, .int .i64 t.x, .int .i64 t.y, .int .i64 t.depth, .int .i64 t.speed, .int .i64 t.mast, .int .i64 t.noise, .bool t.afloat, .bool t.radar, .bool t.sonar, .bool t.ping] 38)).cell (fun e => e) y0, ((Ex.refl (fun _ => False) wr).alloc (.cells #[.int .i64 t.id, .int .i64 t.team, .int .i64 t.x, .int .i64 t.y, .int .i64 t.depth, .int .i64 t.speed, .int .i64 t.mast, .int .i64 t.noise, .bool t.afloat, .bool t.radar, .bool t.sonar, .bool t.ping] 38)).cell (fun e => e) k0, ((Ex.refl (fun _ => False) wr).alloc (.cells #[.int .i64 t.id, .int .i64 t.team, .int .i64 t.x, .int .i64 t.y, .int .i64 t.depth, .int .i64 t.speed, .int .i64 t.mast, .int .i64 t.noise, .bool t.afloat, .bool t.radar, .bool t.sonar, .bool t.ping] 38)).cell (fun e => e) k1, ((Ex.refl (fun _ => False) wr).alloc (.cells #[.int .i64 t.id, .int .i64 t.team, .int .i64 t.x, .int .i64 t.y, .int .i64 t.depth, .int .i64 t.speed, .int .i64 t.mast, .int .i64 t.noise, .bool t.afloat, .bool t.radar, .bool t.sonar, .bool t.ping] 38)).cell (fun e => e) k2, ((Ex.refl (fun _ => False) wr).alloc (.cells #[.int .i64 t.id, .int .i64 t.team, .int .i64 t.x, .int .i64 t.y, .int .i64 t.depth, .int .i64 t.speed, .int .i64 t.mast, .int .i64 t.noise, .bool t.afloat, .bool t.radar, .bool t.sonar, .bool t.ping] 38)).cell (fun e => e) k3, ((Ex.refl (fun _ => False) wr).alloc (.cells #[.int .i64 t.id, .int .i64 t.team, .int .i64 t.x, .int .i64 t.y, .int .i64 t.depth, .int .i64 t.speed, .int .i64 t.mast, .int .i64 t.noise, .bool t.afloat, .bool t.radar, .bool t.sonar, .bool t.ping] 38)).cell (fun e => e) k4, ((Ex.refl (fun _ => False) wr).alloc (.cells #[.int .i64 t.id, .int .i64 t.team, .int .i64 t.x, .int .i64 t.y, .int .i64 t.depth, .int .i64 t.speed, .int .i64 t.mast, .int .i64 t.noise, .bool t.afloat, .bool t.radar, .bool t.sonar, .bool t.ping] 38)).cell (fun e => e) k5, ((Ex.refl (fun _ => False) wr).alloc (.cells #[.int .i64 t.id, .int .i64 t.team, .int .i64 t.x, .int .i64 t.y, .int .i64 t.depth, .int .i64 t.speed, .int .i64 t.mast, .int .i64 t.noise, .bool t.afloat, .bool t.radar, .bool t.sonar, .bool t.ping] 38)).cell (fun e => e) k6, ((Ex.refl (fun _ => False) wr).alloc (.cells #[.int .i64 t.id, .int .i64 t.team, .int .i64 t.x, .int .i64 t.y, .int .i64 t.depth, .int .i64 t.speed, .int .i64 t.mast, .int .i64 t.noise, .bool t.afloat, .bool t.radar, .bool t.sonar, .bool t.ping] 38)).cell (fun e => e) k7, ((Ex.refl (fun _ => False) wr).alloc (.cells #[.int .i64 t.id, .int .i64 t.team, .int .i64 t.x, .int .i64 t.y, .int .i64 t.depth, .int .i64 t.speed, .int .i64 t.mast, .int .i64 t.noise, .bool t.afloat, .bool t.radar, .bool t.sonar, .bool t.ping] 38)).cell (fun e => e) k8, ((Ex.refl (fun _ => False) wr).alloc (.cells #[.int .i64 t.id, .int .i64 t.team, .int .i64 t.x, .int .i64 t.y, .int .i64 t.depth, .int .i64 t.speed, .int .i64 t.mast, .int .i64 t.noise, .bool t.afloat, .bool t.radar, .bool t.sonar, .bool t.ping] 38)).cell (fun e => e) k9, ((Ex.refl (fun _ => False) wr).alloc (.cells #[.int .i64 t.id, .int .i64 t.team, .int .i64 t.x, .int .i64 t.y, .int .i64 t.depth, .int .i64 t.speed, .int .i64 t.mast, .int .i64 t.noise, .bool t.afloat, .bool t.radar, .bool t.sonar, .bool t.ping] 38)).cell (fun e => e) k10, ((Ex.refl (fun _ => False) wr).alloc (.cells #[.int .i64 t.id, .int .i64 t.team, .int .i64 t.x, .int .i64 t.y, .int .i64 t.depth, .int .i64 t.speed, .int .i64 t.mast, .int .i64 t.noise, .bool t.afloat, .bool t.radar, .bool t.sonar, .bool t.ping] 38)).cell (fun e => e) k11⟩
              have HR := hide (show (wr.alloc (.cells #[.int .i64 t.id, .int .i64 t.team, .int .i64 t.x, .int .i64 t.y, .int .i64 t.depth, .int .i64 t.speed, .int .i64 t.mast, .int .i64 t.noise, .bool t.afloat, .bool t.radar, .bool t.sonar, .bool t.ping] 38)).drew.ownsRow 0 38 12 (.slice ba bn bc) bn ((L2.drop (m + 1)).reverse.flatMap Shp.vals) by rw [← hbb, ← hbn]; exact own_kept HOF.out.wb.r1 (((Ex.refl (fun _ => False) _).alloc _).drew) (fun _ _ e => e))
              have HNC := hide (show ∀ (j : Nat) (u : Value), t.vals[j]? = some u → (wr.alloc (.cells #[.int .i64 t.id, .int .i64 t.team, .int .i64 t.x, .int .i64 t.y, .int .i64 t.depth, .int .i64 t.speed, .int .i64 t.mast, .int .i64 t.noise, .bool t.afloat, .bool t.radar, .bool t.sonar, .bool t.ping] 38)).drew.cell? ((⟨wr.heap.size, 0, none⟩ : Addr).add j) = some u from fun j u hj => new_cells wr t.vals 38 j u hj)
              have HV := hide (vals_one t)
              have HMX := hide (show bn + 1 ≤ maxLen ∧ (bn + 1) * 72 ≤ 140737488355328 by unfold maxLen; omega)
              obtain ⟨i0, hi0, hz0, hz1, hz2⟩ : ∃ i0, Try.prog.info? 38 = some i0 ∧ i0.zero = some (.agg #[.int .i64 0, .int .i64 0, .int .i64 0, .int .i64 0, .int .i64 0, .int .i64 0, .int .i64 0, .int .i64 0, .bool false, .bool false, .bool false, .bool false]) ∧ i0.size = 12 ∧ i0.bytes = 72 := ⟨_, rfl, rfl, rfl, rfl⟩
              clear hr hrow ht hbb hbn
              go_upto_region 14 with fail
              refine wp_region_held_drew (S := fun w' => w'.cell? ⟨p, 0, none⟩ = some (.slice (some ⟨g, 0, none⟩) nL cp1) ∧ w'.cell? ⟨g, m * 12, none⟩ = some (.int .i64 t.id) ∧ w'.cell? ⟨g, m * 12 + 1, none⟩ = some (.int .i64 t.team) ∧ w'.cell? ⟨g, m * 12 + 2, none⟩ = some (.int .i64 t.x) ∧ w'.cell? ⟨g, m * 12 + 3, none⟩ = some (.int .i64 t.y) ∧ w'.cell? ⟨g, m * 12 + 4, none⟩ = some (.int .i64 t.depth) ∧ w'.cell? ⟨g, m * 12 + 5, none⟩ = some (.int .i64 t.speed) ∧ w'.cell? ⟨g, m * 12 + 6, none⟩ = some (.int .i64 t.mast) ∧ w'.cell? ⟨g, m * 12 + 7, none⟩ = some (.int .i64 t.noise) ∧ w'.cell? ⟨g, m * 12 + 8, none⟩ = some (.bool t.afloat) ∧ w'.cell? ⟨g, m * 12 + 9, none⟩ = some (.bool t.radar) ∧ w'.cell? ⟨g, m * 12 + 10, none⟩ = some (.bool t.sonar) ∧ w'.cell? ⟨g, m * 12 + 11, none⟩ = some (.bool t.ping)) (by kernel_rfl) zS (fun hHeld => ?_)
              refine wpAnyH_take (i := 0) (v := ?_) rfl (by kernel_rfl) (by kernel_rfl) (by kernel_rfl) (fun _ _ _ h => h) (Or.inl ⟨by rfl, ?_⟩) (by assumption) ?_
              rotate_left
              · (intro w hSw; (try dsimp only at hSw); go_simp; try (with_reducible rfl))
              try simp only [Act.put, List.getElem_toArray, List.getElem_cons_zero, List.getElem_cons_succ, List.setIfInBounds_toArray, List.set_cons_zero, List.set_cons_succ]
              refine wpAnyH_take (i := 1) (v := ?_) rfl (by kernel_rfl) (by kernel_rfl) (by kernel_rfl) (fun _ _ _ h => h) (Or.inl ⟨by rfl, ?_⟩) (by assumption) ?_
              rotate_left
              · (intro w hSw; (try dsimp only at hSw); go_simp; try (with_reducible rfl))
              try simp only [Act.put, List.getElem_toArray, List.getElem_cons_zero, List.getElem_cons_succ, List.setIfInBounds_toArray, List.set_cons_zero, List.set_cons_succ]
              refine wpAnyH_take (i := 2) (v := ?_) rfl (by kernel_rfl) (by kernel_rfl) (by kernel_rfl) (fun _ _ _ h => h) (Or.inl ⟨by rfl, ?_⟩) (by assumption) ?_
              rotate_left
              · (intro w hSw; (try dsimp only at hSw); go_simp; try (with_reducible rfl))
              try simp only [Act.put, List.getElem_toArray, List.getElem_cons_zero, List.getElem_cons_succ, List.setIfInBounds_toArray, List.set_cons_zero, List.set_cons_succ]
              refine wpAnyH_take (i := 3) (v := ?_) rfl (by kernel_rfl) (by kernel_rfl) (by kernel_rfl) (fun _ _ _ h => h) (Or.inl ⟨by rfl, ?_⟩) (by assumption) ?_
              rotate_left
              · (intro w hSw; (try dsimp only at hSw); go_simp; try (with_reducible rfl))
              try simp only [Act.put, List.getElem_toArray, List.getElem_cons_zero, List.getElem_cons_succ, List.setIfInBounds_toArray, List.set_cons_zero, List.set_cons_succ]
              refine wpAnyH_take (i := 5) (v := ?_) rfl (by kernel_rfl) (by kernel_rfl) (by kernel_rfl) (fun _ _ _ h => h) (Or.inl ⟨by rfl, ?_⟩) (by assumption) ?_
              rotate_left
              · (intro w hSw; (try dsimp only at hSw); go_simp; try (with_reducible rfl))
              try simp only [Act.put, List.getElem_toArray, List.getElem_cons_zero, List.getElem_cons_succ, List.setIfInBounds_toArray, List.set_cons_zero, List.set_cons_succ]
              refine wpAnyH_take (i := 6) (v := ?_) rfl (by kernel_rfl) (by kernel_rfl) (by kernel_rfl) (fun _ _ _ h => h) (Or.inl ⟨by rfl, ?_⟩) (by assumption) ?_
              rotate_left
              · (intro w hSw; (try dsimp only at hSw); go_simp; try (with_reducible rfl))
              try simp only [Act.put, List.getElem_toArray, List.getElem_cons_zero, List.getElem_cons_succ, List.setIfInBounds_toArray, List.set_cons_zero, List.set_cons_succ]
              refine wpAnyH_take (i := 7) (v := ?_) rfl (by kernel_rfl) (by kernel_rfl) (by kernel_rfl) (fun _ _ _ h => h) (Or.inl ⟨by rfl, ?_⟩) (by assumption) ?_
              rotate_left
              · (intro w hSw; (try dsimp only at hSw); go_simp; try (with_reducible rfl))
              try simp only [Act.put, List.getElem_toArray, List.getElem_cons_zero, List.getElem_cons_succ, List.setIfInBounds_toArray, List.set_cons_zero, List.set_cons_succ]
              refine wpAnyH_take (i := 8) (v := ?_) rfl (by kernel_rfl) (by kernel_rfl) (by kernel_rfl) (fun _ _ _ h => h) (Or.inl ⟨by rfl, ?_⟩) (by assumption) ?_
              rotate_left
              · (intro w hSw; (try dsimp only at hSw); go_simp; try (with_reducible rfl))
              try simp only [Act.put, List.getElem_toArray, List.getElem_cons_zero, List.getElem_cons_succ, List.setIfInBounds_toArray, List.set_cons_zero, List.set_cons_succ]
              refine wpAnyH_take (i := 9) (v := ?_) rfl (by kernel_rfl) (by kernel_rfl) (by kernel_rfl) (fun _ _ _ h => h) (Or.inl ⟨by rfl, ?_⟩) (by assumption) ?_
              rotate_left
              · (intro w hSw; (try dsimp only at hSw); go_simp; try (with_reducible rfl))
              try simp only [Act.put, List.getElem_toArray, List.getElem_cons_zero, List.getElem_cons_succ, List.setIfInBounds_toArray, List.set_cons_zero, List.set_cons_succ]
              refine wpAnyH_take (i := 10) (v := ?_) rfl (by kernel_rfl) (by kernel_rfl) (by kernel_rfl) (fun _ _ _ h => h) (Or.inl ⟨by rfl, ?_⟩) (by assumption) ?_
              rotate_left
              · (intro w hSw; (try dsimp only at hSw); go_simp; try (with_reducible rfl))
              try simp only [Act.put, List.getElem_toArray, List.getElem_cons_zero, List.getElem_cons_succ, List.setIfInBounds_toArray, List.set_cons_zero, List.set_cons_succ]
              refine wpAnyH_take (i := 11) (v := ?_) rfl (by kernel_rfl) (by kernel_rfl) (by kernel_rfl) (fun _ _ _ h => h) (Or.inl ⟨by rfl, ?_⟩) (by assumption) ?_
              rotate_left
              · (intro w hSw; (try dsimp only at hSw); go_simp; try (with_reducible rfl))
              try simp only [Act.put, List.getElem_toArray, List.getElem_cons_zero, List.getElem_cons_succ, List.setIfInBounds_toArray, List.set_cons_zero, List.set_cons_succ]
              refine wpAnyH_ready (rs := [4, 12]) (by kernel_rfl) (by simp) ?_
              refine (AllReadyH.cons rfl (fun K hK => ?_) (AllReadyH.cons rfl (fun K hK => ?_) AllReadyH.nil))
              · go_simp
                refine hK.out _ _ ?_ (fun hHeld => ?_)
                · (first | exact zS | exact zSa | exact hS3 | exact hS4 | (simp [*, go_sem]; done))
                clear hK K
                try simp only [Act.put, List.getElem_toArray, List.getElem_cons_zero, List.getElem_cons_succ, List.setIfInBounds_toArray, List.set_cons_zero, List.set_cons_succ]
                refine wpAnyH_ready (rs := [12]) (by kernel_rfl) (by simp) ?_
                refine (AllReadyH.cons rfl (fun K hK => ?_) AllReadyH.nil)
                · go_simp
                  refine hK.out _ _ ?_ (fun hHeld => ?_)
                  · (first | exact zS | exact zSa | exact hS3 | exact hS4 | (simp [*, go_sem]; done))
                  clear hK K
                  try simp only [Act.put, List.getElem_toArray, List.getElem_cons_zero, List.getElem_cons_succ, List.setIfInBounds_toArray, List.set_cons_zero, List.set_cons_succ]
                  refine wpAnyH_ready (rs := [13]) (by kernel_rfl) (by simp) ?_
                  refine (AllReadyH.cons rfl (fun K hK => ?_) AllReadyH.nil)
                  · refine step_append_lies _ rfl (.tmp 48) (.tmp 56) 41 rfl 0 38 i0 _ 12 72 Try.underlying41 hi0 hz0 hz1 hz2 rfl (by decide) (.slice ba bn bc) bn ((L2.drop (m + 1)).reverse.flatMap Shp.vals) rfl HR.out ⟨wr.heap.size, 0, none⟩ 1 1 (t.vals) rfl rfl HNC.out HV.out (by decide) HMX.out.1 HMX.out.2 (Nat.zero_le _) _ rfl ?_
                    intro g2 cap2 w2 hr hg hat hlt2
                    replace hg := grown_drew hg
                    rw [← HBB.out] at hg hat
                    have hr2 : w2.ownsRow 0 38 12 (.slice (some ⟨g2, 0, none⟩) (bn + 1) cap2) ((L2.drop (m + 1)).reverse.length + 1) ((L2.drop (m + 1)).reverse.flatMap Shp.vals ++ t.vals) := by rw [HBN.out]; exact hr
                    have hA := HOF.out.wb.app1 hr2 hg (by rcases hat with z | z; exact .inl z.symm; exact .inr (by rw [z]; simp [Value.ownBlock]))
                    have y1 := hA.2.2.2.1
                    have y2 := hA.2.2.2.2.1
                    have ex3 := hA.2.2.2.2.2
                    have HOF2 := hide (HOF.out.go hA.1 hA.2.1 hA.2.2.1)
                    have hS3 : w2.cell? ⟨p, 0, none⟩ = some (.slice (some ⟨g, 0, none⟩) nL cp1) ∧ w2.cell? ⟨g, m * 12, none⟩ = some (.int .i64 t.id) ∧ w2.cell? ⟨g, m * 12 + 1, none⟩ = some (.int .i64 t.team) ∧ w2.cell? ⟨g, m * 12 + 2, none⟩ = some (.int .i64 t.x) ∧ w2.cell? ⟨g, m * 12 + 3, none⟩ = some (.int .i64 t.y) ∧ w2.cell? ⟨g, m * 12 + 4, none⟩ = some (.int .i64 t.depth) ∧ w2.cell? ⟨g, m * 12 + 5, none⟩ = some (.int .i64 t.speed) ∧ w2.cell? ⟨g, m * 12 + 6, none⟩ = some (.int .i64 t.mast) ∧ w2.cell? ⟨g, m * 12 + 7, none⟩ = some (.int .i64 t.noise) ∧ w2.cell? ⟨g, m * 12 + 8, none⟩ = some (.bool t.afloat) ∧ w2.cell? ⟨g, m * 12 + 9, none⟩ = some (.bool t.radar) ∧ w2.cell? ⟨g, m * 12 + 10, none⟩ = some (.bool t.sonar) ∧ w2.cell? ⟨g, m * 12 + 11, none⟩ = some (.bool t.ping) := ⟨ex3.cell (fun z => by have := HOF.out.fb p z; have := HOF.out.fp p (.inl rfl); omega) zS.1, ex3.cell (fun z => by have := HOF.out.fb g z; have := HGP.out; omega) zS.2.1, ex3.cell (fun z => by have := HOF.out.fb g z; have := HGP.out; omega) zS.2.2.1, ex3.cell (fun z => by have := HOF.out.fb g z; have := HGP.out; omega) zS.2.2.2.1, ex3.cell (fun z => by have := HOF.out.fb g z; have := HGP.out; omega) zS.2.2.2.2.1, ex3.cell (fun z => by have := HOF.out.fb g z; have := HGP.out; omega) zS.2.2.2.2.2.1, ex3.cell (fun z => by have := HOF.out.fb g z; have := HGP.out; omega) zS.2.2.2.2.2.2.1, ex3.cell (fun z => by have := HOF.out.fb g z; have := HGP.out; omega) zS.2.2.2.2.2.2.2.1, ex3.cell (fun z => by have := HOF.out.fb g z; have := HGP.out; omega) zS.2.2.2.2.2.2.2.2.1, ex3.cell (fun z => by have := HOF.out.fb g z; have := HGP.out; omega) zS.2.2.2.2.2.2.2.2.2.1, ex3.cell (fun z => by have := HOF.out.fb g z; have := HGP.out; omega) zS.2.2.2.2.2.2.2.2.2.2.1, ex3.cell (fun z => by have := HOF.out.fb g z; have := HGP.out; omega) zS.2.2.2.2.2.2.2.2.2.2.2.1, ex3.cell (fun z => by have := HOF.out.fb g z; have := HGP.out; omega) zS.2.2.2.2.2.2.2.2.2.2.2.2⟩
                    have hS4 : (w2.setCell ⟨pb, 0, none⟩ (.slice (some ⟨g2, 0, none⟩) (bn + 1) cap2)).drew.cell? ⟨p, 0, none⟩ = some (.slice (some ⟨g, 0, none⟩) nL cp1) ∧ (w2.setCell ⟨pb, 0, none⟩ (.slice (some ⟨g2, 0, none⟩) (bn + 1) cap2)).drew.cell? ⟨g, m * 12, none⟩ = some (.int .i64 t.id) ∧ (w2.setCell ⟨pb, 0, none⟩ (.slice (some ⟨g2, 0, none⟩) (bn + 1) cap2)).drew.cell? ⟨g, m * 12 + 1, none⟩ = some (.int .i64 t.team) ∧ (w2.setCell ⟨pb, 0, none⟩ (.slice (some ⟨g2, 0, none⟩) (bn + 1) cap2)).drew.cell? ⟨g, m * 12 + 2, none⟩ = some (.int .i64 t.x) ∧ (w2.setCell ⟨pb, 0, none⟩ (.slice (some ⟨g2, 0, none⟩) (bn + 1) cap2)).drew.cell? ⟨g, m * 12 + 3, none⟩ = some (.int .i64 t.y) ∧ (w2.setCell ⟨pb, 0, none⟩ (.slice (some ⟨g2, 0, none⟩) (bn + 1) cap2)).drew.cell? ⟨g, m * 12 + 4, none⟩ = some (.int .i64 t.depth) ∧ (w2.setCell ⟨pb, 0, none⟩ (.slice (some ⟨g2, 0, none⟩) (bn + 1) cap2)).drew.cell? ⟨g, m * 12 + 5, none⟩ = some (.int .i64 t.speed) ∧ (w2.setCell ⟨pb, 0, none⟩ (.slice (some ⟨g2, 0, none⟩) (bn + 1) cap2)).drew.cell? ⟨g, m * 12 + 6, none⟩ = some (.int .i64 t.mast) ∧ (w2.setCell ⟨pb, 0, none⟩ (.slice (some ⟨g2, 0, none⟩) (bn + 1) cap2)).drew.cell? ⟨g, m * 12 + 7, none⟩ = some (.int .i64 t.noise) ∧ (w2.setCell ⟨pb, 0, none⟩ (.slice (some ⟨g2, 0, none⟩) (bn + 1) cap2)).drew.cell? ⟨g, m * 12 + 8, none⟩ = some (.bool t.afloat) ∧ (w2.setCell ⟨pb, 0, none⟩ (.slice (some ⟨g2, 0, none⟩) (bn + 1) cap2)).drew.cell? ⟨g, m * 12 + 9, none⟩ = some (.bool t.radar) ∧ (w2.setCell ⟨pb, 0, none⟩ (.slice (some ⟨g2, 0, none⟩) (bn + 1) cap2)).drew.cell? ⟨g, m * 12 + 10, none⟩ = some (.bool t.sonar) ∧ (w2.setCell ⟨pb, 0, none⟩ (.slice (some ⟨g2, 0, none⟩) (bn + 1) cap2)).drew.cell? ⟨g, m * 12 + 11, none⟩ = some (.bool t.ping) := by
                      have hpp : p ≠ pb := by have := HOF.out.fp p (.inl rfl); omega
                      have hgp : g ≠ pb := by have := HGP.out; omega
                      obtain ⟨q0, q1, q2, q3, q4, q5, q6, q7, q8, q9, q10, q11, q12⟩ := hS3
                      exact ⟨(set_cell_ne _ _ _ _ _ _ hpp).trans q0, (set_cell_ne _ _ _ _ _ _ hgp).trans q1, (set_cell_ne _ _ _ _ _ _ hgp).trans q2, (set_cell_ne _ _ _ _ _ _ hgp).trans q3, (set_cell_ne _ _ _ _ _ _ hgp).trans q4, (set_cell_ne _ _ _ _ _ _ hgp).trans q5, (set_cell_ne _ _ _ _ _ _ hgp).trans q6, (set_cell_ne _ _ _ _ _ _ hgp).trans q7, (set_cell_ne _ _ _ _ _ _ hgp).trans q8, (set_cell_ne _ _ _ _ _ _ hgp).trans q9, (set_cell_ne _ _ _ _ _ _ hgp).trans q10, (set_cell_ne _ _ _ _ _ _ hgp).trans q11, (set_cell_ne _ _ _ _ _ _ hgp).trans q12⟩
                    clear hr hr2 hg hat hA ex3
                    refine hK.out _ _ ?_ (fun hHeld => ?_)
                    · (first | exact zS | exact zSa | exact hS3 | exact hS4 | (simp [*, go_sem]; done))
                    clear hK K
                    try simp only [Act.put, List.getElem_toArray, List.getElem_cons_zero, List.getElem_cons_succ, List.setIfInBounds_toArray, List.set_cons_zero, List.set_cons_succ]
                    refine wpAnyH_take (i := 14) (v := ?_) rfl (by kernel_rfl) (by kernel_rfl) (by kernel_rfl) (fun _ _ _ h => h) (Or.inl ⟨by rfl, ?_⟩) (by assumption) ?_
                    rotate_left
                    · (intro w hSw; (try dsimp only at hSw); go_simp; try (with_reducible rfl))
                    try simp only [Act.put, List.getElem_toArray, List.getElem_cons_zero, List.getElem_cons_succ, List.setIfInBounds_toArray, List.set_cons_zero, List.set_cons_succ]
                    refine wpAnyH_take (i := 15) (v := ?_) rfl (by kernel_rfl) (by kernel_rfl) (by kernel_rfl) (fun _ _ _ h => h) (Or.inl ⟨by rfl, ?_⟩) (by assumption) ?_
                    rotate_left
                    · (intro w hSw; (try dsimp only at hSw); go_simp; try (with_reducible rfl))
                    try simp only [Act.put, List.getElem_toArray, List.getElem_cons_zero, List.getElem_cons_succ, List.setIfInBounds_toArray, List.set_cons_zero, List.set_cons_succ]
                    refine wpAnyH_ready (rs := [16]) (by kernel_rfl) (by simp) ?_
                    refine (AllReadyH.cons rfl (fun K hK => ?_) AllReadyH.nil)
                    · go_simp
                      refine hK.out _ _ ?_ (fun hHeld => ?_)
                      · (first | exact zS | exact zSa | exact hS3 | exact hS4 | (simp [*, go_sem]; done))
                      clear hK K
                      try simp only [Act.put, List.getElem_toArray, List.getElem_cons_zero, List.getElem_cons_succ, List.setIfInBounds_toArray, List.set_cons_zero, List.set_cons_succ]
                      refine wpAnyH_done (by kernel_rfl) ?_ _
                      go_wp2
                      go_roundw
                      case rel =>
                        refine ⟨m, .slice (some ⟨g2, 0, none⟩) (bn + 1) cap2, by omega, by congr 1 <;> simp, ?_⟩
                        rw [rev_next HT.out]
                        first | exact HOF2.out | exact HOF2.out.drew
                      case measure => first | (simp [intOf]; done) | (simp [intOf]; omega)
              · go_simp
                refine hK.out _ _ ?_ (fun hHeld => ?_)
                · (first | exact zS | exact zSa | exact hS3 | exact hS4 | (simp [*, go_sem]; done))
                clear hK K
                try simp only [Act.put, List.getElem_toArray, List.getElem_cons_zero, List.getElem_cons_succ, List.setIfInBounds_toArray, List.set_cons_zero, List.set_cons_succ]
                refine wpAnyH_ready (rs := [4]) (by kernel_rfl) (by simp) ?_
                refine (AllReadyH.cons rfl (fun K hK => ?_) AllReadyH.nil)
                · go_simp
                  refine hK.out _ _ ?_ (fun hHeld => ?_)
                  · (first | exact zS | exact zSa | exact hS3 | exact hS4 | (simp [*, go_sem]; done))
                  clear hK K
                  try simp only [Act.put, List.getElem_toArray, List.getElem_cons_zero, List.getElem_cons_succ, List.setIfInBounds_toArray, List.set_cons_zero, List.set_cons_succ]
                  refine wpAnyH_ready (rs := [13]) (by kernel_rfl) (by simp) ?_
                  refine (AllReadyH.cons rfl (fun K hK => ?_) AllReadyH.nil)
                  · refine step_append_lies _ rfl (.tmp 48) (.tmp 56) 41 rfl 0 38 i0 _ 12 72 Try.underlying41 hi0 hz0 hz1 hz2 rfl (by decide) (.slice ba bn bc) bn ((L2.drop (m + 1)).reverse.flatMap Shp.vals) rfl HR.out ⟨wr.heap.size, 0, none⟩ 1 1 (t.vals) rfl rfl HNC.out HV.out (by decide) HMX.out.1 HMX.out.2 (Nat.zero_le _) _ rfl ?_
                    intro g2 cap2 w2 hr hg hat hlt2
                    replace hg := grown_drew hg
                    rw [← HBB.out] at hg hat
                    have hr2 : w2.ownsRow 0 38 12 (.slice (some ⟨g2, 0, none⟩) (bn + 1) cap2) ((L2.drop (m + 1)).reverse.length + 1) ((L2.drop (m + 1)).reverse.flatMap Shp.vals ++ t.vals) := by rw [HBN.out]; exact hr
                    have hA := HOF.out.wb.app1 hr2 hg (by rcases hat with z | z; exact .inl z.symm; exact .inr (by rw [z]; simp [Value.ownBlock]))
                    have y1 := hA.2.2.2.1
                    have y2 := hA.2.2.2.2.1
                    have ex3 := hA.2.2.2.2.2
                    have HOF2 := hide (HOF.out.go hA.1 hA.2.1 hA.2.2.1)
                    have hS3 : w2.cell? ⟨p, 0, none⟩ = some (.slice (some ⟨g, 0, none⟩) nL cp1) ∧ w2.cell? ⟨g, m * 12, none⟩ = some (.int .i64 t.id) ∧ w2.cell? ⟨g, m * 12 + 1, none⟩ = some (.int .i64 t.team) ∧ w2.cell? ⟨g, m * 12 + 2, none⟩ = some (.int .i64 t.x) ∧ w2.cell? ⟨g, m * 12 + 3, none⟩ = some (.int .i64 t.y) ∧ w2.cell? ⟨g, m * 12 + 4, none⟩ = some (.int .i64 t.depth) ∧ w2.cell? ⟨g, m * 12 + 5, none⟩ = some (.int .i64 t.speed) ∧ w2.cell? ⟨g, m * 12 + 6, none⟩ = some (.int .i64 t.mast) ∧ w2.cell? ⟨g, m * 12 + 7, none⟩ = some (.int .i64 t.noise) ∧ w2.cell? ⟨g, m * 12 + 8, none⟩ = some (.bool t.afloat) ∧ w2.cell? ⟨g, m * 12 + 9, none⟩ = some (.bool t.radar) ∧ w2.cell? ⟨g, m * 12 + 10, none⟩ = some (.bool t.sonar) ∧ w2.cell? ⟨g, m * 12 + 11, none⟩ = some (.bool t.ping) := ⟨ex3.cell (fun z => by have := HOF.out.fb p z; have := HOF.out.fp p (.inl rfl); omega) zS.1, ex3.cell (fun z => by have := HOF.out.fb g z; have := HGP.out; omega) zS.2.1, ex3.cell (fun z => by have := HOF.out.fb g z; have := HGP.out; omega) zS.2.2.1, ex3.cell (fun z => by have := HOF.out.fb g z; have := HGP.out; omega) zS.2.2.2.1, ex3.cell (fun z => by have := HOF.out.fb g z; have := HGP.out; omega) zS.2.2.2.2.1, ex3.cell (fun z => by have := HOF.out.fb g z; have := HGP.out; omega) zS.2.2.2.2.2.1, ex3.cell (fun z => by have := HOF.out.fb g z; have := HGP.out; omega) zS.2.2.2.2.2.2.1, ex3.cell (fun z => by have := HOF.out.fb g z; have := HGP.out; omega) zS.2.2.2.2.2.2.2.1, ex3.cell (fun z => by have := HOF.out.fb g z; have := HGP.out; omega) zS.2.2.2.2.2.2.2.2.1, ex3.cell (fun z => by have := HOF.out.fb g z; have := HGP.out; omega) zS.2.2.2.2.2.2.2.2.2.1, ex3.cell (fun z => by have := HOF.out.fb g z; have := HGP.out; omega) zS.2.2.2.2.2.2.2.2.2.2.1, ex3.cell (fun z => by have := HOF.out.fb g z; have := HGP.out; omega) zS.2.2.2.2.2.2.2.2.2.2.2.1, ex3.cell (fun z => by have := HOF.out.fb g z; have := HGP.out; omega) zS.2.2.2.2.2.2.2.2.2.2.2.2⟩
                    have hS4 : (w2.setCell ⟨pb, 0, none⟩ (.slice (some ⟨g2, 0, none⟩) (bn + 1) cap2)).drew.cell? ⟨p, 0, none⟩ = some (.slice (some ⟨g, 0, none⟩) nL cp1) ∧ (w2.setCell ⟨pb, 0, none⟩ (.slice (some ⟨g2, 0, none⟩) (bn + 1) cap2)).drew.cell? ⟨g, m * 12, none⟩ = some (.int .i64 t.id) ∧ (w2.setCell ⟨pb, 0, none⟩ (.slice (some ⟨g2, 0, none⟩) (bn + 1) cap2)).drew.cell? ⟨g, m * 12 + 1, none⟩ = some (.int .i64 t.team) ∧ (w2.setCell ⟨pb, 0, none⟩ (.slice (some ⟨g2, 0, none⟩) (bn + 1) cap2)).drew.cell? ⟨g, m * 12 + 2, none⟩ = some (.int .i64 t.x) ∧ (w2.setCell ⟨pb, 0, none⟩ (.slice (some ⟨g2, 0, none⟩) (bn + 1) cap2)).drew.cell? ⟨g, m * 12 + 3, none⟩ = some (.int .i64 t.y) ∧ (w2.setCell ⟨pb, 0, none⟩ (.slice (some ⟨g2, 0, none⟩) (bn + 1) cap2)).drew.cell? ⟨g, m * 12 + 4, none⟩ = some (.int .i64 t.depth) ∧ (w2.setCell ⟨pb, 0, none⟩ (.slice (some ⟨g2, 0, none⟩) (bn + 1) cap2)).drew.cell? ⟨g, m * 12 + 5, none⟩ = some (.int .i64 t.speed) ∧ (w2.setCell ⟨pb, 0, none⟩ (.slice (some ⟨g2, 0, none⟩) (bn + 1) cap2)).drew.cell? ⟨g, m * 12 + 6, none⟩ = some (.int .i64 t.mast) ∧ (w2.setCell ⟨pb, 0, none⟩ (.slice (some ⟨g2, 0, none⟩) (bn + 1) cap2)).drew.cell? ⟨g, m * 12 + 7, none⟩ = some (.int .i64 t.noise) ∧ (w2.setCell ⟨pb, 0, none⟩ (.slice (some ⟨g2, 0, none⟩) (bn + 1) cap2)).drew.cell? ⟨g, m * 12 + 8, none⟩ = some (.bool t.afloat) ∧ (w2.setCell ⟨pb, 0, none⟩ (.slice (some ⟨g2, 0, none⟩) (bn + 1) cap2)).drew.cell? ⟨g, m * 12 + 9, none⟩ = some (.bool t.radar) ∧ (w2.setCell ⟨pb, 0, none⟩ (.slice (some ⟨g2, 0, none⟩) (bn + 1) cap2)).drew.cell? ⟨g, m * 12 + 10, none⟩ = some (.bool t.sonar) ∧ (w2.setCell ⟨pb, 0, none⟩ (.slice (some ⟨g2, 0, none⟩) (bn + 1) cap2)).drew.cell? ⟨g, m * 12 + 11, none⟩ = some (.bool t.ping) := by
                      have hpp : p ≠ pb := by have := HOF.out.fp p (.inl rfl); omega
                      have hgp : g ≠ pb := by have := HGP.out; omega
                      obtain ⟨q0, q1, q2, q3, q4, q5, q6, q7, q8, q9, q10, q11, q12⟩ := hS3
                      exact ⟨(set_cell_ne _ _ _ _ _ _ hpp).trans q0, (set_cell_ne _ _ _ _ _ _ hgp).trans q1, (set_cell_ne _ _ _ _ _ _ hgp).trans q2, (set_cell_ne _ _ _ _ _ _ hgp).trans q3, (set_cell_ne _ _ _ _ _ _ hgp).trans q4, (set_cell_ne _ _ _ _ _ _ hgp).trans q5, (set_cell_ne _ _ _ _ _ _ hgp).trans q6, (set_cell_ne _ _ _ _ _ _ hgp).trans q7, (set_cell_ne _ _ _ _ _ _ hgp).trans q8, (set_cell_ne _ _ _ _ _ _ hgp).trans q9, (set_cell_ne _ _ _ _ _ _ hgp).trans q10, (set_cell_ne _ _ _ _ _ _ hgp).trans q11, (set_cell_ne _ _ _ _ _ _ hgp).trans q12⟩
                    clear hr hr2 hg hat hA ex3
                    refine hK.out _ _ ?_ (fun hHeld => ?_)
                    · (first | exact zS | exact zSa | exact hS3 | exact hS4 | (simp [*, go_sem]; done))
                    clear hK K
                    try simp only [Act.put, List.getElem_toArray, List.getElem_cons_zero, List.getElem_cons_succ, List.setIfInBounds_toArray, List.set_cons_zero, List.set_cons_succ]
                    refine wpAnyH_take (i := 14) (v := ?_) rfl (by kernel_rfl) (by kernel_rfl) (by kernel_rfl) (fun _ _ _ h => h) (Or.inl ⟨by rfl, ?_⟩) (by assumption) ?_
                    rotate_left
                    · (intro w hSw; (try dsimp only at hSw); go_simp; try (with_reducible rfl))
                    try simp only [Act.put, List.getElem_toArray, List.getElem_cons_zero, List.getElem_cons_succ, List.setIfInBounds_toArray, List.set_cons_zero, List.set_cons_succ]
                    refine wpAnyH_take (i := 15) (v := ?_) rfl (by kernel_rfl) (by kernel_rfl) (by kernel_rfl) (fun _ _ _ h => h) (Or.inl ⟨by rfl, ?_⟩) (by assumption) ?_
                    rotate_left
                    · (intro w hSw; (try dsimp only at hSw); go_simp; try (with_reducible rfl))
                    try simp only [Act.put, List.getElem_toArray, List.getElem_cons_zero, List.getElem_cons_succ, List.setIfInBounds_toArray, List.set_cons_zero, List.set_cons_succ]
                    refine wpAnyH_ready (rs := [16]) (by kernel_rfl) (by simp) ?_
                    refine (AllReadyH.cons rfl (fun K hK => ?_) AllReadyH.nil)
                    · go_simp
                      refine hK.out _ _ ?_ (fun hHeld => ?_)
                      · (first | exact zS | exact zSa | exact hS3 | exact hS4 | (simp [*, go_sem]; done))
                      clear hK K
                      try simp only [Act.put, List.getElem_toArray, List.getElem_cons_zero, List.getElem_cons_succ, List.setIfInBounds_toArray, List.set_cons_zero, List.set_cons_succ]
                      refine wpAnyH_done (by kernel_rfl) ?_ _
                      go_wp2
                      go_roundw
                      case rel =>
                        refine ⟨m, .slice (some ⟨g2, 0, none⟩) (bn + 1) cap2, by omega, by congr 1 <;> simp, ?_⟩
                        rw [rev_next HT.out]
                        first | exact HOF2.out | exact HOF2.out.drew
                      case measure => first | (simp [intOf]; done) | (simp [intOf]; omega)
        · have h6b : (kd != 6) = true := by simp [h6]
          go_wp2
          go_roundw
          case rel => exact ⟨k + 1, _, _, _, _, by omega, by simp, HL2.out⟩
          case measure => simp [intOf]; omega
      · have hlti : ¬ (k : Int) < (n : Int) := by omega
        obtain rfl : k = n := by omega
        go_wp2
        go_ret
        exact ⟨rfl, HL.out.bel⟩
  · go_enter Try.func9, Try.ntmps9
    go_wp2_with fail
    refine (small_any _ a n cap hn).mono ?_
    rintro e w' ⟨rfl, ew⟩
    rw [ew]
    have hd : decide (n ≤ 65536) = false := by simpa using hsm
    rw [hd]
    clear hd ew w'
    go_wp2
    go_ret
    exact ⟨rfl, Below.refl _ _⟩
end Go.Proofs.Qxb6500776a
