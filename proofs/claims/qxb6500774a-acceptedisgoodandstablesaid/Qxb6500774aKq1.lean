import Derived.Test.Qxb6500774aKp1
namespace Go.Proofs.Qxb6500774a
open Go.RowKit
set_option linter.unusedVariables false
set_option linter.unusedSimpArgs false

section
variable {B p : Nat} {a : Option Addr} {cp : Nat} {s : List Int}
/-- something that lives on beside a row -/
def KN (NT : World → (Nat → Prop) → Prop) : Prop := ∀ (w w' : World) (D D' T : Nat → Prop), Ex T w w' → (∀ g, T g → D g ∨ w.heap.size ≤ g) → (∀ g, D' g → D g ∨ w.heap.size ≤ g) → NT w D → NT w' D'
theorem kp_pan {NT : World → (Nat → Prop) → Prop} (hN : KN NT) {st : PSt} {L : List (ByteArray × E)} : KP (fun w D F => (isAt st → PA w D L F) ∧ NT w D) := fun w w' D D' T _ ex hS hD h => ⟨fun z => (h.1 z).keep ex hS hD, hN w w' D D' T ex hS hD h.2⟩
theorem kn_net (g : Nat) (f1 : XP) (e0 : E) (P0 : Prop) : KN (fun w D => (RC w g 0 f1 ∧ (g < w.heap.size ∧ ¬ D g)) ∧ (P0 → ET w D e0 f1)) := fun _ _ _ _ _ ex hS hD h =>
  have h2 := okD ex hS hD h.1.2
  ⟨⟨h.1.1.keep ex h2.2, h2.1⟩, fun z => (h.2 z).keep ex hS hD⟩
/-- the coils' loop -/
def CRL (B p : Nat) (a : Option Addr) (cp : Nat) (s : List Int) (w : World) (q N : Nat) (d l c : Int) (ve : SLc) (NT : World → (Nat → Prop) → Prop) (RL : List (ByteArray × E) × PSt) (v5 : Value) (wr : World) (m : Nat) : Prop := ∃ (L : List (ByteArray × E)) (st : PSt) (v : SLc), SX B p a cp s w wr q st ⟨4, nb, ve, nl, nl, nl, nl, v, l, c⟩ ∧ GR (fun w D F => (isAt st → PA w D L F) ∧ NT w D) 121 8 w wr v ∧ DA d st ∧ v.n + m ≤ N ∧ ((v5 = .bool true ∧ ∃ L2, pcoils s m st = some (L2, RL.2) ∧ L ++ L2 = RL.1) ∨ (v5 = .bool false ∧ m = 0 ∧ L = RL.1 ∧ st = RL.2))
set_option linter.unusedSimpArgs false in
set_option linter.unusedVariables false in
set_option maxRecDepth 100000 in
set_option maxHeartbeats 32000000 in
theorem rungK (N : Nat) (hN : N ≤ 4294967296) (l c : Int) (st : PSt) (RR : S × PSt) (w : World) (q : Nat) (hpj : ps s N (.rungs l c) st = some RR) (hin : InS B p a cp s w st) (d : Int) (hd0 : 0 ≤ d ∧ d ≤ 64) (hda : DA d st) (hsk : SK w q ⟨0, nb, nl, nl, nl, nl, nl, nl, l, c⟩) (hq : B ≤ q) :
    Calls Try.prog 76 #[.pointer (some ⟨p, 0, none⟩), .pointer (some ⟨q, 0, none⟩)] w (StPost B p q a cp s w RR) := by
  have HD0 := hide hd0
  have HN := hide hN
  obtain ⟨m, e0, st1, L0, st9, hm, hp1, hp2, hrr⟩ : ∃ m e0 st1 L0 st9, m < N ∧ pj s m (.expr 1) st = some (e0, st1) ∧ pcoils s m (expectS s bARR st1) = some (L0, st9) ∧ (.rung e0 L0 l c .nil, st9) = RR := by
    cases N with
    | zero => unfold ps at hpj; cases hpj
    | succ m =>
      unfold ps at hpj
      split at hpj
      · cases hpj
      · next e0 st1 h1 =>
        split at hpj
        · cases hpj
        · next L st2 h2 => injection hpj with hpj; exact ⟨m, e0, st1, L, st2, Nat.lt_succ_self m, h1, h2, hpj⟩
  have HEC0 : Hid (∀ wz, InS B p a cp s wz st → Calls Try.prog 44 #[.pointer (some ⟨p, 0, none⟩), .int .i64 1] wz (XPost B p a cp s wz (e0, st1))) := fun wz hz => expr_any wz hp1 hz (hda.ok hd0)
  have HDA1 : Hid (DA d st1) := pj_da s _ _ _ _ _ hp1 hda
  have HM := hide hm
  have HP2 := hide hp2
  have HRR := hide hrr
  have hb := hin.hB
  have HB : Hid (B ≤ q ∧ q < w.heap.size ∧ p < B ∧ B ≤ w.heap.size) := ⟨hq, hsk.lt, hb.2, hb.1⟩
  have HX0 : Hid (SX B p a cp s w w q st ⟨0, nb, nl, nl, nl, nl, nl, nl, l, c⟩) := ⟨hin, Ex.refl _ _, hsk, HB.out⟩
  clear hpj hin hd0 hda hsk hq hN hm hp1 hp2 hrr hb
  have y0 := HX0.out.te.c0
  have yf0 := HX0.out.te.fz 0
  go_enter Try.func76, Try.ntmps76
  go_upto_region 1 with fail
  have HX1 := hide (HX0.out.set (HX0.out.te.put0 4))
  dsimp only at HX1
  clear HX0 y0 yf0
  generalize w.setCell ⟨q, 0, none⟩ (.int .i64 4) = w1 at *
  go_wp2_with fail
  refine (HEC0.out w1 HX1.out.ins).mono ?_
  rintro e9 w2 ⟨f1, rfl, hex, hi, hti⟩
  have HX2 := hide (HX1.out.call hex hi)
  have HT2 : Hid (isAt st1 → ET w2 (fun k => k < w.heap.size) e0 f1) := fun z => (hti z).fresh HX1.out.ex.size
  have HS2 : Hid (w.heap.size ≤ w2.heap.size) := HX2.out.ex.size
  clear hex hi hti HX1 HEC0
  have ex3 : Ex (fun _ => False) w2 (w2.alloc (xO f1)) := (Ex.refl _ _).alloc _
  have HX3 := hide (HX2.out.low ex3)
  have HT3 : Hid (isAt st1 → ET (w2.alloc (xO f1)) (fun k => k < w.heap.size) e0 f1) := fun z => (HT2.out z).pq ex3 (fun _ z => z.elim)
  have HG3 : Hid (RC (w2.alloc (xO f1)) w2.heap.size 0 f1 ∧ w2.heap.size < (w2.alloc (xO f1)).heap.size ∧ ¬ w2.heap.size < w.heap.size) := ⟨(XK.new w2 f1).rc, by simp, by have := HS2.out; omega⟩
  have hql : q < w2.heap.size := HX2.out.te.lt
  have y2 := HX2.out.te.c2
  have yf2 := HX2.out.te.fz 2
  have HX4 := hide (HX3.out.set (HX3.out.te.put2 ⟨some ⟨w2.heap.size, 0, none⟩, 1, 1⟩))
  have ex4 : Ex (fun k => k = q) (w2.alloc (xO f1)) ((w2.alloc (xO f1)).setCell ⟨q, 2, none⟩ (.slice (some ⟨w2.heap.size, 0, none⟩) 1 1)) := (Ex.refl (fun k => k = q) _).set (p := q) rfl _
  have HT4 : Hid (isAt st1 → ET ((w2.alloc (xO f1)).setCell ⟨q, 2, none⟩ (.slice (some ⟨w2.heap.size, 0, none⟩) 1 1)) (fun k => k < w.heap.size) e0 f1) := fun z => (HT3.out z).pq ex4 (fun k z => .inl (by have := HB.out; omega))
  have HG4 : Hid (RC ((w2.alloc (xO f1)).setCell ⟨q, 2, none⟩ (.slice (some ⟨w2.heap.size, 0, none⟩) 1 1)) w2.heap.size 0 f1 ∧ w2.heap.size < ((w2.alloc (xO f1)).setCell ⟨q, 2, none⟩ (.slice (some ⟨w2.heap.size, 0, none⟩) 1 1)).heap.size ∧ ¬ w2.heap.size < w.heap.size) := ⟨HG3.out.1.keep ex4 (fun z => HG3.out.2.2 (by have := HB.out; omega)), Nat.lt_of_lt_of_le HG3.out.2.1 ex4.size, HG3.out.2.2⟩
  dsimp only at HX4 y2
  clear HX2 HT2 HX3 HT3 HG3 ex3 ex4 HS2
  obtain ⟨w4, hw4⟩ : ∃ x, (w2.alloc (xO f1)).setCell ⟨q, 2, none⟩ (.slice (some ⟨w2.heap.size, 0, none⟩) 1 1) = x := ⟨_, rfl⟩
  rw [hw4] at HX4 HT4 HG4
  have HW4 := hide hw4
  rw [set_alloc _ _ _ hql] at HW4
  unfold xO at HW4
  clear hw4
  unfold xV
  go_upto_region 2 with fail
  rw [HW4.out]
  clear HW4 hql y2 yf2
  generalize w2.heap.size = g at *
  have HXP := hide (expectK_any w4 HX4.out.ins bARR)
  have HDA2 : Hid (DA d (expectS s bARR st1)) := expectS_da HDA1.out _
  have HAT2 : Hid (isAt (expectS s bARR st1) → isAt st1) := fun z => isAt.ex z
  clear HDA1
  generalize expectS s bARR st1 = st2 at *
  unfold bARR at HXP
  go_wp2_with fail
  refine HXP.out.mono ?_
  rintro e9 w5 ⟨rfl, hex, hi⟩
  have HX5 := hide (HX4.out.call hex hi)
  have HT5 : Hid (isAt st2 → ET w5 (fun k => k < w.heap.size) e0 f1) := fun z => (HT4.out (HAT2.out z)).pq hex (fun k z => .inl (by have := HB.out; omega))
  have HG5 : Hid (RC w5 g 0 f1 ∧ g < w5.heap.size ∧ ¬ g < w.heap.size) := ⟨HG4.out.1.keep hex (fun z => HG4.out.2.2 (by have := HB.out; omega)), Nat.lt_of_lt_of_le HG4.out.2.1 hex.size, HG4.out.2.2⟩
  clear hex hi HX4 HT4 HG4 HXP HAT2
  simp only []
  go_wp2_with fail
  obtain ⟨NT, hNT⟩ : ∃ NT : World → (Nat → Prop) → Prop, NT = fun w D => (RC w g 0 f1 ∧ (g < w.heap.size ∧ ¬ D g)) ∧ (isAt st2 → ET w D e0 f1) := ⟨_, rfl⟩
  have HNT : Hid (NT w5 (DG w nl)) := by
    rw [hNT]
    have hD : ∀ k, DG w nl k → k < w.heap.size := fun k z => by
      rcases z with z | z
      · exact z
      · cases z
    exact ⟨⟨HG5.out.1, HG5.out.2.1, fun z => HG5.out.2.2 (hD g z)⟩, fun z => (HT5.out z).keep (Ex.refl (fun _ => False) _) (fun _ z => z.elim) (fun k z => .inl (hD k z))⟩
  have HKN : Hid (KN NT) := by rw [hNT]; exact kn_net g f1 e0 (isAt st2)
  have HTE := hide hNT
  clear hNT HG5
  have HR0 : Hid (CRL B p a cp s w q N d l c ⟨some ⟨g, 0, none⟩, 1, 1⟩ NT (L0, st9) (.bool true) w5 m) := ⟨[], st2, nl, HX5.out, GR.nil ⟨fun _ => rfl, HNT.out⟩, HDA2.out, by have := HM.out; show 0 + m ≤ N; omega, .inl ⟨rfl, L0, HP2.out, rfl⟩⟩
  have HAT9 : Hid (isAt st9 → isAt st2) := fun z => isAt.pcoils HP2.out HDA2.out HD0.out z
  clear HX5 HDA2 HP2 HNT
  go_loopw [4] (fun v5 wr => ∃ m, CRL B p a cp s w q N d l c ⟨some ⟨g, 0, none⟩, 1, 1⟩ NT (L0, st9) v5 wr m) (fun v5 wr => lm (CRL B p a cp s w q N d l c ⟨some ⟨g, 0, none⟩, 1, 1⟩ NT (L0, st9) v5 wr))
  case atStart => exact ⟨_, HR0.out⟩
  case round =>
    have hsp := (lm_spec hrel).1
    obtain ⟨m0, hmm⟩ : ∃ m, lm (CRL B p a cp s w q N d l c ⟨some ⟨g, 0, none⟩, 1, 1⟩ NT (L0, st9) u4 wr) = m := ⟨_, rfl⟩
    have HLM := hide hmm
    rw [hmm] at hsp
    clear hmm hrel HR0
    obtain ⟨L, st6, v, h1, h2, h3, h4, h5⟩ := hsp
    have HX := hide h1
    have HG := hide h2
    have HDA := hide h3
    have HVN := hide h4
    clear h1 h2 h3 h4
    rcases h5 with ⟨rfl, L2, hp, hLL⟩ | ⟨rfl, h0, hL, hst⟩
    · obtain ⟨m8, hm8, hp⟩ : ∃ m8, m8 + 1 = m0 ∧ pcoils s (m8 + 1) st6 = some (L2, st9) := by
        cases m0 with
        | zero => unfold pcoils at hp; cases hp
        | succ m => exact ⟨m, rfl, hp⟩
      unfold pcoils at hp
      obtain ⟨e, st8, hpe, hsr⟩ : ∃ e st8, pj s m8 .plac (modeS s st6).2 = some (e, st8) ∧ ((if (acceptS s bCOM st8).1 = true then
          (match pcoils s m8 (acceptS s bCOM st8).2 with
           | none => none
           | some (L, st5) => some (((modeS s st6).1, e) :: L, st5))
        else some ([((modeS s st6).1, e)], st8)) = some (L2, st9)) := by
        split at hp
        · cases hp
        · next e st8 h1 => exact ⟨e, st8, h1, hp⟩
      have HM8 := hide hm8
      have HPE := hide hpe
      have HSR := hide hsr
      have HLL := hide hLL
      have HDA7 : Hid (DA d (modeS s st6).2) := modeS_da HDA.out
      have HDA8 : Hid (DA d st8) := pj_da s _ _ _ _ _ hpe HDA7.out
      have HAT8 : Hid (isAt st8 → isAt (modeS s st6).2) := fun z => isAt.pj HPE.out HDA7.out HD0.out z
      have HAT6 : Hid (isAt (modeS s st6).2 → isAt st6) := isAt.mode
      have HEC : Hid (∀ wz, InS B p a cp s wz (modeS s st6).2 → Calls Try.prog 93 #[.pointer (some ⟨p, 0, none⟩)] wz (XPost B p a cp s wz (e, st8))) := fun wz hz => place_any wz HPE.out hz (HDA7.out.ok HD0.out)
      have HTC := hide (takeK_any wr HX.out.ins 5 (by decide))
      have HMO : Hid ((isMode s st6 = true → modeS s st6 = ((takeS s 5 st6).1.x, (takeS s 5 st6).2)) ∧ (isMode s st6 = false → modeS s st6 = (nb, st6))) := by
        unfold modeS
        exact ⟨fun z => if_pos z, fun z => if_neg (by rw [z]; decide)⟩
      clear hm8 hpe hsr hLL hp HPE
      generalize modeS s st6 = ms at *
      obtain ⟨y, st7⟩ := ms
      dsimp only at HSR HDA7 HAT8 HAT6 HEC HMO
      have HAX : Hid (isMode s st6 = (atS s ⟨#[78, 79, 84]⟩ st6 || atS s ⟨#[83, 69, 84]⟩ st6 || atS s ⟨#[82, 69, 83, 69, 84]⟩ st6)) := rfl
      cases hN : atS s ⟨#[78, 79, 84]⟩ st6
      · cases hS : atS s ⟨#[83, 69, 84]⟩ st6
        · cases hR : atS s ⟨#[82, 69, 83, 69, 84]⟩ st6
          · have hmo : isMode s st6 = false := by rw [HAX.out, hN, hS, hR]; rfl
            have hms := HMO.out.2 hmo
            injection hms with hy h7
            clear HMO hmo HTC HAX
            subst h7
            unfold nb at hy
            subst hy
            go_upto_region 9 with (go_at_call 72; refine (atK_any _ HX.out.ins _).mono ?_; rintro e9 wq ⟨rfl, hwq⟩; subst wq; simp only [hN, hS, hR])
            clear hN hS hR
            have HX7 : Hid (SX B p a cp s w wr.drew q st7 ⟨4, nb, ⟨some ⟨g, 0, none⟩, 1, 1⟩, nl, nl, nl, nl, v, l, c⟩) := HX.out.low (Ex.refl _ _).drew
            have HG7 : Hid (GR (fun w D F => (isAt st7 → PA w D L F) ∧ NT w D) 121 8 w wr.drew v) := GR.keep (kp_pan HKN.out) HG.out ((Ex.refl (fun _ => False) wr).drew) (fun _ z => z.elim)
            clear HX HG
            refine wp_region_until (fun w6 => SK w6 q ⟨4, nb, ⟨some ⟨g, 0, none⟩, 1, 1⟩, nl, nl, nl, nl, v, l, c⟩) 13 (by kernel_rfl) (HX7.out.te) (fun hHeld => ?_)
            generalize wr.drew = wd at *
            refine wpAnyU_take (i := 0) (v := ?_) [13] rfl (by kernel_rfl) (by kernel_rfl) (by kernel_rfl) (by kernel_rfl) (fun _ _ _ h => h) (Or.inl ⟨by rfl, ?_⟩) (by assumption) ?_
            rotate_left
            · (intro w hSw; (try dsimp only at hSw); (skip); go_simp; try (with_reducible rfl))
            try simp only [Act.put, List.getElem_toArray, List.getElem_cons_zero, List.getElem_cons_succ, List.setIfInBounds_toArray, List.set_cons_zero, List.set_cons_succ]
            refine wpAnyU_take (i := 1) (v := ?_) [13] rfl (by kernel_rfl) (by kernel_rfl) (by kernel_rfl) (by kernel_rfl) (fun _ _ _ h => h) (Or.inl ⟨by rfl, ?_⟩) (by assumption) ?_
            rotate_left
            · (intro w hSw; (try dsimp only at hSw); (skip); go_simp; try (with_reducible rfl))
            try simp only [Act.put, List.getElem_toArray, List.getElem_cons_zero, List.getElem_cons_succ, List.setIfInBounds_toArray, List.set_cons_zero, List.set_cons_succ]
            refine wpAnyU_take (i := 2) (v := ?_) [13] rfl (by kernel_rfl) (by kernel_rfl) (by kernel_rfl) (by kernel_rfl) (fun _ _ _ h => h) (Or.inl ⟨by rfl, ?_⟩) (by assumption) ?_
            rotate_left
            · (intro w hSw; (try dsimp only at hSw); (skip); go_simp; try (with_reducible rfl))
            try simp only [Act.put, List.getElem_toArray, List.getElem_cons_zero, List.getElem_cons_succ, List.setIfInBounds_toArray, List.set_cons_zero, List.set_cons_succ]
            refine wpAnyU_take (i := 3) (v := ?_) [13] rfl (by kernel_rfl) (by kernel_rfl) (by kernel_rfl) (by kernel_rfl) (fun _ _ _ h => h) (Or.inl ⟨by rfl, ?_⟩) (by assumption) ?_
            rotate_left
            · (intro w hSw; (try dsimp only at hSw); (skip); go_simp; try (with_reducible rfl))
            try simp only [Act.put, List.getElem_toArray, List.getElem_cons_zero, List.getElem_cons_succ, List.setIfInBounds_toArray, List.set_cons_zero, List.set_cons_succ]
            refine wpAnyU_take (i := 4) (v := ?_) [13] rfl (by kernel_rfl) (by kernel_rfl) (by kernel_rfl) (by kernel_rfl) (fun _ _ _ h => h) (Or.inl ⟨by rfl, ?_⟩) (by assumption) ?_
            rotate_left
            · (intro w hSw; (try dsimp only at hSw); (have z7 := hSw.c7); go_simp; try (with_reducible rfl))
            try simp only [Act.put, List.getElem_toArray, List.getElem_cons_zero, List.getElem_cons_succ, List.setIfInBounds_toArray, List.set_cons_zero, List.set_cons_succ]
            refine wpAnyU_take (i := 5) (v := ?_) [13] rfl (by kernel_rfl) (by kernel_rfl) (by kernel_rfl) (by kernel_rfl) (fun _ _ _ h => h) (Or.inl ⟨by rfl, ?_⟩) (by assumption) ?_
            rotate_left
            · (intro w hSw; (try dsimp only at hSw); (skip); go_simp; try (with_reducible rfl))
            try simp only [Act.put, List.getElem_toArray, List.getElem_cons_zero, List.getElem_cons_succ, List.setIfInBounds_toArray, List.set_cons_zero, List.set_cons_succ]
            refine wpAnyU_take (i := 6) (v := ?_) [13] rfl (by kernel_rfl) (by kernel_rfl) (by kernel_rfl) (by kernel_rfl) (fun _ _ _ h => h) (Or.inl ⟨by rfl, ?_⟩) (by assumption) ?_
            rotate_left
            · (intro w hSw; (try dsimp only at hSw); (skip); go_simp; try (with_reducible rfl))
            try simp only [Act.put, List.getElem_toArray, List.getElem_cons_zero, List.getElem_cons_succ, List.setIfInBounds_toArray, List.set_cons_zero, List.set_cons_succ]
            refine wpAnyU_ready (rs := [7]) (by kernel_rfl) (by simp) ?_
            refine (AllReadyU.cons rfl (fun K hK => ?_) AllReadyU.nil)
            · refine step_call rfl 93 #[.pointer (some ⟨p, 0, none⟩)] (by simp [go_sem]) (HEC.out wd HX7.out.ins) ?_
              rintro e9 wc ⟨f2, rfl, hex, hi, hti⟩
              have HXc := hide (HX7.out.call hex hi)
              have HGc : Hid (GR (fun w D F => (isAt st8 → PA w D L F) ∧ NT w D) 121 8 w wc v) := GR.imp (GR.keep (kp_pan HKN.out) HG7.out hex (fun k z => .inl (by have := HB.out; omega))) (fun F h => ⟨fun z => h.1 (HAT8.out z), h.2⟩)
              have HIc : Hid (isAt st8 → ET wc (DG w v) e f2) := fun z => (hti z).keep (Ex.refl (fun _ => False) _) (fun _ z => z.elim) (fun g z => .inl (by
                rcases z with z | z
                · have := HX7.out.ex.size; omega
                · obtain ⟨F, h1, _⟩ := HG7.out
                  exact (h1.lt g z).2))
              clear hex hi hti HX7 HG7
              refine ⟨_, rfl, ?_⟩
              unfold xV
              refine hK.out _ _ ?_ (fun hHeld => ?_)
              · exact HXc.out.te
              clear hK K
              try simp only [Act.put, List.getElem_toArray, List.getElem_cons_zero, List.getElem_cons_succ, List.setIfInBounds_toArray, List.set_cons_zero, List.set_cons_succ]
              refine wpAnyU_take (i := 8) (v := ?_) [13] rfl (by kernel_rfl) (by kernel_rfl) (by kernel_rfl) (by kernel_rfl) (fun _ _ _ h => h) (Or.inl ⟨by rfl, ?_⟩) (by assumption) ?_
              rotate_left
              · (intro w hSw; (try dsimp only at hSw); (skip); go_simp; try (with_reducible rfl))
              try simp only [Act.put, List.getElem_toArray, List.getElem_cons_zero, List.getElem_cons_succ, List.setIfInBounds_toArray, List.set_cons_zero, List.set_cons_succ]
              refine wpAnyU_ready (rs := [9]) (by kernel_rfl) (by simp) ?_
              refine (AllReadyU.cons rfl (fun K hK => ?_) AllReadyU.nil)
              · go_simp
                have HXa := hide (HXc.out.low ((Ex.refl (fun _ => False) wc).alloc (.cells #[.string ⟨#[]⟩, .int .i64 f2.k, .string f2.x, .int .i64 f2.n, .string f2.m, .slice f2.q f2.ql f2.qc, .int .i64 f2.li, .int .i64 f2.co] 121)))
                have HGa : Hid (GR (fun w D F => (isAt st8 → PA w D L F) ∧ NT w D) 121 8 w (wc.alloc (.cells #[.string ⟨#[]⟩, .int .i64 f2.k, .string f2.x, .int .i64 f2.n, .string f2.m, .slice f2.q f2.ql f2.qc, .int .i64 f2.li, .int .i64 f2.co] 121)) v) := GR.keep (kp_pan HKN.out) HGc.out ((Ex.refl (fun _ => False) wc).alloc _) (fun _ z => z.elim)
                have HIa : Hid (isAt st8 → ET (wc.alloc (.cells #[.string ⟨#[]⟩, .int .i64 f2.k, .string f2.x, .int .i64 f2.n, .string f2.m, .slice f2.q f2.ql f2.qc, .int .i64 f2.li, .int .i64 f2.co] 121)) (DG w v) e f2) := fun z => (HIc.out z).keep ((Ex.refl (fun _ => False) wc).alloc _) (fun _ z => z.elim) (fun g z => .inl z)
                have HNa : Hid (∀ (jq : Nat) (u : Value), [.string ⟨#[]⟩, .int .i64 f2.k, .string f2.x, .int .i64 f2.n, .string f2.m, .slice f2.q f2.ql f2.qc, .int .i64 f2.li, .int .i64 f2.co][jq]? = some u → (wc.alloc (.cells #[.string ⟨#[]⟩, .int .i64 f2.k, .string f2.x, .int .i64 f2.n, .string f2.m, .slice f2.q f2.ql f2.qc, .int .i64 f2.li, .int .i64 f2.co] 121)).cell? ((⟨wc.heap.size, 0, none⟩ : Addr).add jq) = some u) := fun jq u hj => new_cells wc [.string ⟨#[]⟩, .int .i64 f2.k, .string f2.x, .int .i64 f2.n, .string f2.m, .slice f2.q f2.ql f2.qc, .int .i64 f2.li, .int .i64 f2.co] 121 jq u hj
                generalize wc.alloc (.cells #[.string ⟨#[]⟩, .int .i64 f2.k, .string f2.x, .int .i64 f2.n, .string f2.m, .slice f2.q f2.ql f2.qc, .int .i64 f2.li, .int .i64 f2.co] 121) = wa at *
                generalize wc.heap.size = g0 at *
                clear HXc HGc HIc
                refine hK.out _ _ ?_ (fun hHeld => ?_)
                · exact HXa.out.te
                clear hK K
                try simp only [Act.put, List.getElem_toArray, List.getElem_cons_zero, List.getElem_cons_succ, List.setIfInBounds_toArray, List.set_cons_zero, List.set_cons_succ]
                refine wpAnyU_ready (rs := [10]) (by kernel_rfl) (by simp) ?_
                refine (AllReadyU.cons rfl (fun K hK => ?_) AllReadyU.nil)
                · refine step_push (w0 := w) rfl (.tmp 37) (.tmp 42) 61 121 _ 8 104 rfl Try.underlying61 Try.inf121 rfl (by decide) (by decide) v rfl HGa.out g0 1 [.string ⟨#[]⟩, .int .i64 f2.k, .string f2.x, .int .i64 f2.n, .string f2.m, .slice f2.q f2.ql f2.qc, .int .i64 f2.li, .int .i64 f2.co] rfl rfl HNa.out (fun u hu => by simp at hu; rcases hu with rfl | rfl | rfl | rfl | rfl | rfl | rfl | rfl <;> rfl) (by have := HVN.out; have := HN.out; omega) HXa.out.ex.size ?_
                  intro gb cb wb hGR hgr hob
                  have HGb : Hid (GR (fun w D F => (isAt st8 → PA w D (L ++ [(⟨#[]⟩, e)]) F) ∧ NT w D) 121 8 w wb ⟨some ⟨gb, 0, none⟩, v.n + 1, cb⟩) := hGR _ (kp_pan HKN.out) (fun F h => ⟨fun z => PA.snoc (HIa.out z) (h.1 z), h.2⟩)
                  have exb := Ex.ofGrown hgr (S := fun k => (slV v).ownBlock = some k) (fun _ z => z.symm)
                  have HXb := hide (HXa.out.oth exb (fun k z => (hob k z).1))
                  clear hGR hgr hob exb HXa HGa HIa HNa
                  refine hK.out _ _ ?_ (fun hHeld => ?_)
                  · exact HXb.out.te
                  clear hK K
                  try simp only [Act.put, List.getElem_toArray, List.getElem_cons_zero, List.getElem_cons_succ, List.setIfInBounds_toArray, List.set_cons_zero, List.set_cons_succ]
                  refine wpAnyU_take (i := 11) (v := ?_) [12, 13] rfl (by kernel_rfl) (by kernel_rfl) (by kernel_rfl) (by kernel_rfl) (fun _ _ _ h => h) (Or.inl ⟨by rfl, ?_⟩) (by assumption) ?_
                  rotate_left
                  · (intro w hSw; (try dsimp only at hSw); (skip); go_simp; try (with_reducible rfl))
                  try simp only [Act.put, List.getElem_toArray, List.getElem_cons_zero, List.getElem_cons_succ, List.setIfInBounds_toArray, List.set_cons_zero, List.set_cons_succ]
                  refine wpAnyU_take (i := 12) (v := ?_) [13] rfl (by kernel_rfl) (by kernel_rfl) (by kernel_rfl) (by kernel_rfl) (fun _ _ _ h => h) (Or.inl ⟨by rfl, ?_⟩) (by assumption) ?_
                  rotate_left
                  · (intro w hSw; (try dsimp only at hSw); (skip); go_simp; try (with_reducible rfl))
                  try simp only [Act.put, List.getElem_toArray, List.getElem_cons_zero, List.getElem_cons_succ, List.setIfInBounds_toArray, List.set_cons_zero, List.set_cons_succ]
                  refine wpAnyU_ready (rs := [13]) (by kernel_rfl) (by simp) ?_
                  refine AllReadyU.last rfl (fun K hK => ?_)
                  have Y7 := HXb.out.te.c7
                  have YF7 := HXb.out.te.fz 7
                  go_simp
                  refine hK.out _ _ ?_
                  clear hK K
                  try simp only [Act.put, List.getElem_toArray, List.getElem_cons_zero, List.getElem_cons_succ, List.setIfInBounds_toArray, List.set_cons_zero, List.set_cons_succ]
                  refine wpAnyU_done (by kernel_rfl) ?_ _
                  have HXf := hide (HXb.out.set (HXb.out.te.put7 ⟨some ⟨gb, 0, none⟩, v.n + 1, cb⟩))
                  have HGf : Hid (GR (fun w D F => (isAt st8 → PA w D (L ++ [(⟨#[]⟩, e)]) F) ∧ NT w D) 121 8 w (wb.setCell ⟨q, 7, none⟩ (.slice (some ⟨gb, 0, none⟩) (v.n + 1) cb)) ⟨some ⟨gb, 0, none⟩, v.n + 1, cb⟩) := GR.keep (kp_pan HKN.out) HGb.out ((Ex.refl (fun k => k = q) wb).set (p := q) rfl _) (fun k z => .inl (by have := HB.out; omega))
                  dsimp only at HXf
                  clear HXb HGb Y7 YF7
                  go_upto_region 5 with fail
                  generalize wb.setCell ⟨q, 7, none⟩ (.slice (some ⟨gb, 0, none⟩) (v.n + 1) cb) = wf at *
                  have HAC := hide (acceptK_any wf HXf.out.ins bCOM)
                  have HDA9 : Hid (DA d (acceptS s bCOM st8).2) := acceptS_da HDA8.out _
                  have HAT10 : Hid (isAt (acceptS s bCOM st8).2 → isAt st8) := isAt.acc
                  generalize hacc : acceptS s bCOM st8 = ac at *
                  obtain ⟨bo, st10⟩ := ac
                  dsimp only at HAC HDA9 HAT10
                  unfold bCOM at HAC
                  go_wp2_with fail
                  refine HAC.out.mono ?_
                  rintro e9 wg ⟨rfl, hex, hi⟩
                  have HXg := hide (HXf.out.call hex hi)
                  have HGg : Hid (GR (fun w D F => (isAt st10 → PA w D (L ++ [(⟨#[]⟩, e)]) F) ∧ NT w D) 121 8 w wg ⟨some ⟨gb, 0, none⟩, v.n + 1, cb⟩) := GR.imp (GR.keep (kp_pan HKN.out) HGf.out hex (fun k z => .inl (by have := HB.out; omega))) (fun F h => ⟨fun z => h.1 (HAT10.out z), h.2⟩)
                  have hrel2 : ∃ m2, m2 < m0 ∧ CRL B p a cp s w q N d l c ⟨some ⟨g, 0, none⟩, 1, 1⟩ NT (L0, st9) (.bool bo) wg m2 := by
                    have hsr := HSR.out
                    cases bo
                    · rw [if_neg (by simp)] at hsr
                      injection hsr with hsr
                      injection hsr with hs1 hs2
                      have h10 : st10 = st8 := by
                        unfold acceptS at hacc
                        split at hacc
                        · injection hacc with q1 q2; cases q1
                        · injection hacc with q1 q2; exact q2.symm
                      exact ⟨0, by have := HM8.out; omega, L ++ [(⟨#[]⟩, e)], st10, _, HXg.out, HGg.out, HDA9.out, by have := HVN.out; have := HM8.out; show v.n + 1 + 0 ≤ N; omega, .inr ⟨rfl, rfl, by rw [← HLL.out, ← hs1], by rw [h10]; exact hs2⟩⟩
                    · rw [if_pos (by rfl)] at hsr
                      split at hsr
                      · cases hsr
                      · next L3 st5 h3 =>
                        injection hsr with hsr
                        injection hsr with hs1 hs2
                        have hs2 : st5 = st9 := hs2
                        rw [hs2] at h3
                        exact ⟨m8, by have := HM8.out; omega, L ++ [(⟨#[]⟩, e)], st10, _, HXg.out, HGg.out, HDA9.out, by have := HVN.out; have := HM8.out; show v.n + 1 + m8 ≤ N; omega, .inl ⟨rfl, L3, h3, by rw [← HLL.out, ← hs1, List.append_assoc]; rfl⟩⟩
                  obtain ⟨m2, hm2, hr2⟩ := hrel2
                  clear hex hi HXf HGf HAC HXg HGg HDA9 HAT10 hacc
                  go_wp2
                  go_roundw
                  case rel => exact ⟨m2, hr2⟩
                  case measure => exact lm_lt hr2 (by rw [HLM.out]; exact hm2)
          · have hmo : isMode s st6 = true := by rw [HAX.out, hN, hS, hR]; rfl
            have hms := HMO.out.1 hmo
            injection hms with hy h7
            clear HMO hmo HAX
            rw [← h7] at HTC
            go_upto_region 8 with (go_at_call 72; refine (atK_any _ HX.out.ins _).mono ?_; rintro e9 wq ⟨rfl, hwq⟩; subst wq; simp only [hN, hS, hR])
            go_wp2_with fail
            refine HTC.out.mono ?_
            rintro e9 w5 ⟨rfl, hex, hi⟩
            have HX5 := hide (HX.out.call hex hi)
            have HG5 : Hid (GR (fun w D F => (isAt st7 → PA w D L F) ∧ NT w D) 121 8 w w5 v) := GR.imp (GR.keep (kp_pan HKN.out) HG.out hex (fun k z => .inl (by have := HB.out; omega))) (fun F h => ⟨fun z => h.1 (HAT6.out z), h.2⟩)
            generalize (takeS s 5 st6).1 = ty at *
            have hfl := fld81 ty w5
            unfold tkV at hfl ⊢
            rw [← hy] at hfl ⊢
            clear hex hi HX HG HTC h7 hy hN hS hR
            simp only []
            go_upto_region 9 with fail
            clear hfl
            have HX7 : Hid (SX B p a cp s w w5.drew q st7 ⟨4, nb, ⟨some ⟨g, 0, none⟩, 1, 1⟩, nl, nl, nl, nl, v, l, c⟩) := HX5.out.low (Ex.refl _ _).drew
            have HG7 : Hid (GR (fun w D F => (isAt st7 → PA w D L F) ∧ NT w D) 121 8 w w5.drew v) := GR.keep (kp_pan HKN.out) HG5.out ((Ex.refl (fun _ => False) w5).drew) (fun _ z => z.elim)
            clear HX5 HG5
            refine wp_region_until (fun w6 => SK w6 q ⟨4, nb, ⟨some ⟨g, 0, none⟩, 1, 1⟩, nl, nl, nl, nl, v, l, c⟩) 13 (by kernel_rfl) (HX7.out.te) (fun hHeld => ?_)
            generalize w5.drew = wd at *
            refine wpAnyU_take (i := 0) (v := ?_) [13] rfl (by kernel_rfl) (by kernel_rfl) (by kernel_rfl) (by kernel_rfl) (fun _ _ _ h => h) (Or.inl ⟨by rfl, ?_⟩) (by assumption) ?_
            rotate_left
            · (intro w hSw; (try dsimp only at hSw); (skip); go_simp; try (with_reducible rfl))
            try simp only [Act.put, List.getElem_toArray, List.getElem_cons_zero, List.getElem_cons_succ, List.setIfInBounds_toArray, List.set_cons_zero, List.set_cons_succ]
            refine wpAnyU_take (i := 1) (v := ?_) [13] rfl (by kernel_rfl) (by kernel_rfl) (by kernel_rfl) (by kernel_rfl) (fun _ _ _ h => h) (Or.inl ⟨by rfl, ?_⟩) (by assumption) ?_
            rotate_left
            · (intro w hSw; (try dsimp only at hSw); (skip); go_simp; try (with_reducible rfl))
            try simp only [Act.put, List.getElem_toArray, List.getElem_cons_zero, List.getElem_cons_succ, List.setIfInBounds_toArray, List.set_cons_zero, List.set_cons_succ]
            refine wpAnyU_take (i := 2) (v := ?_) [13] rfl (by kernel_rfl) (by kernel_rfl) (by kernel_rfl) (by kernel_rfl) (fun _ _ _ h => h) (Or.inl ⟨by rfl, ?_⟩) (by assumption) ?_
            rotate_left
            · (intro w hSw; (try dsimp only at hSw); (skip); go_simp; try (with_reducible rfl))
            try simp only [Act.put, List.getElem_toArray, List.getElem_cons_zero, List.getElem_cons_succ, List.setIfInBounds_toArray, List.set_cons_zero, List.set_cons_succ]
            refine wpAnyU_take (i := 3) (v := ?_) [13] rfl (by kernel_rfl) (by kernel_rfl) (by kernel_rfl) (by kernel_rfl) (fun _ _ _ h => h) (Or.inl ⟨by rfl, ?_⟩) (by assumption) ?_
            rotate_left
            · (intro w hSw; (try dsimp only at hSw); (skip); go_simp; try (with_reducible rfl))
            try simp only [Act.put, List.getElem_toArray, List.getElem_cons_zero, List.getElem_cons_succ, List.setIfInBounds_toArray, List.set_cons_zero, List.set_cons_succ]
            refine wpAnyU_take (i := 4) (v := ?_) [13] rfl (by kernel_rfl) (by kernel_rfl) (by kernel_rfl) (by kernel_rfl) (fun _ _ _ h => h) (Or.inl ⟨by rfl, ?_⟩) (by assumption) ?_
            rotate_left
            · (intro w hSw; (try dsimp only at hSw); (have z7 := hSw.c7); go_simp; try (with_reducible rfl))
            try simp only [Act.put, List.getElem_toArray, List.getElem_cons_zero, List.getElem_cons_succ, List.setIfInBounds_toArray, List.set_cons_zero, List.set_cons_succ]
            refine wpAnyU_take (i := 5) (v := ?_) [13] rfl (by kernel_rfl) (by kernel_rfl) (by kernel_rfl) (by kernel_rfl) (fun _ _ _ h => h) (Or.inl ⟨by rfl, ?_⟩) (by assumption) ?_
            rotate_left
            · (intro w hSw; (try dsimp only at hSw); (skip); go_simp; try (with_reducible rfl))
            try simp only [Act.put, List.getElem_toArray, List.getElem_cons_zero, List.getElem_cons_succ, List.setIfInBounds_toArray, List.set_cons_zero, List.set_cons_succ]
            refine wpAnyU_take (i := 6) (v := ?_) [13] rfl (by kernel_rfl) (by kernel_rfl) (by kernel_rfl) (by kernel_rfl) (fun _ _ _ h => h) (Or.inl ⟨by rfl, ?_⟩) (by assumption) ?_
            rotate_left
            · (intro w hSw; (try dsimp only at hSw); (skip); go_simp; try (with_reducible rfl))
            try simp only [Act.put, List.getElem_toArray, List.getElem_cons_zero, List.getElem_cons_succ, List.setIfInBounds_toArray, List.set_cons_zero, List.set_cons_succ]
            refine wpAnyU_ready (rs := [7]) (by kernel_rfl) (by simp) ?_
            refine (AllReadyU.cons rfl (fun K hK => ?_) AllReadyU.nil)
            · refine step_call rfl 93 #[.pointer (some ⟨p, 0, none⟩)] (by simp [go_sem]) (HEC.out wd HX7.out.ins) ?_
              rintro e9 wc ⟨f2, rfl, hex, hi, hti⟩
              have HXc := hide (HX7.out.call hex hi)
              have HGc : Hid (GR (fun w D F => (isAt st8 → PA w D L F) ∧ NT w D) 121 8 w wc v) := GR.imp (GR.keep (kp_pan HKN.out) HG7.out hex (fun k z => .inl (by have := HB.out; omega))) (fun F h => ⟨fun z => h.1 (HAT8.out z), h.2⟩)
              have HIc : Hid (isAt st8 → ET wc (DG w v) e f2) := fun z => (hti z).keep (Ex.refl (fun _ => False) _) (fun _ z => z.elim) (fun g z => .inl (by
                rcases z with z | z
                · have := HX7.out.ex.size; omega
                · obtain ⟨F, h1, _⟩ := HG7.out
                  exact (h1.lt g z).2))
              clear hex hi hti HX7 HG7
              refine ⟨_, rfl, ?_⟩
              unfold xV
              refine hK.out _ _ ?_ (fun hHeld => ?_)
              · exact HXc.out.te
              clear hK K
              try simp only [Act.put, List.getElem_toArray, List.getElem_cons_zero, List.getElem_cons_succ, List.setIfInBounds_toArray, List.set_cons_zero, List.set_cons_succ]
              refine wpAnyU_take (i := 8) (v := ?_) [13] rfl (by kernel_rfl) (by kernel_rfl) (by kernel_rfl) (by kernel_rfl) (fun _ _ _ h => h) (Or.inl ⟨by rfl, ?_⟩) (by assumption) ?_
              rotate_left
              · (intro w hSw; (try dsimp only at hSw); (skip); go_simp; try (with_reducible rfl))
              try simp only [Act.put, List.getElem_toArray, List.getElem_cons_zero, List.getElem_cons_succ, List.setIfInBounds_toArray, List.set_cons_zero, List.set_cons_succ]
              refine wpAnyU_ready (rs := [9]) (by kernel_rfl) (by simp) ?_
              refine (AllReadyU.cons rfl (fun K hK => ?_) AllReadyU.nil)
              · go_simp
                have HXa := hide (HXc.out.low ((Ex.refl (fun _ => False) wc).alloc (.cells #[.string y, .int .i64 f2.k, .string f2.x, .int .i64 f2.n, .string f2.m, .slice f2.q f2.ql f2.qc, .int .i64 f2.li, .int .i64 f2.co] 121)))
                have HGa : Hid (GR (fun w D F => (isAt st8 → PA w D L F) ∧ NT w D) 121 8 w (wc.alloc (.cells #[.string y, .int .i64 f2.k, .string f2.x, .int .i64 f2.n, .string f2.m, .slice f2.q f2.ql f2.qc, .int .i64 f2.li, .int .i64 f2.co] 121)) v) := GR.keep (kp_pan HKN.out) HGc.out ((Ex.refl (fun _ => False) wc).alloc _) (fun _ z => z.elim)
                have HIa : Hid (isAt st8 → ET (wc.alloc (.cells #[.string y, .int .i64 f2.k, .string f2.x, .int .i64 f2.n, .string f2.m, .slice f2.q f2.ql f2.qc, .int .i64 f2.li, .int .i64 f2.co] 121)) (DG w v) e f2) := fun z => (HIc.out z).keep ((Ex.refl (fun _ => False) wc).alloc _) (fun _ z => z.elim) (fun g z => .inl z)
                have HNa : Hid (∀ (jq : Nat) (u : Value), [.string y, .int .i64 f2.k, .string f2.x, .int .i64 f2.n, .string f2.m, .slice f2.q f2.ql f2.qc, .int .i64 f2.li, .int .i64 f2.co][jq]? = some u → (wc.alloc (.cells #[.string y, .int .i64 f2.k, .string f2.x, .int .i64 f2.n, .string f2.m, .slice f2.q f2.ql f2.qc, .int .i64 f2.li, .int .i64 f2.co] 121)).cell? ((⟨wc.heap.size, 0, none⟩ : Addr).add jq) = some u) := fun jq u hj => new_cells wc [.string y, .int .i64 f2.k, .string f2.x, .int .i64 f2.n, .string f2.m, .slice f2.q f2.ql f2.qc, .int .i64 f2.li, .int .i64 f2.co] 121 jq u hj
                generalize wc.alloc (.cells #[.string y, .int .i64 f2.k, .string f2.x, .int .i64 f2.n, .string f2.m, .slice f2.q f2.ql f2.qc, .int .i64 f2.li, .int .i64 f2.co] 121) = wa at *
                generalize wc.heap.size = g0 at *
                clear HXc HGc HIc
                refine hK.out _ _ ?_ (fun hHeld => ?_)
                · exact HXa.out.te
                clear hK K
                try simp only [Act.put, List.getElem_toArray, List.getElem_cons_zero, List.getElem_cons_succ, List.setIfInBounds_toArray, List.set_cons_zero, List.set_cons_succ]
                refine wpAnyU_ready (rs := [10]) (by kernel_rfl) (by simp) ?_
                refine (AllReadyU.cons rfl (fun K hK => ?_) AllReadyU.nil)
                · refine step_push (w0 := w) rfl (.tmp 37) (.tmp 42) 61 121 _ 8 104 rfl Try.underlying61 Try.inf121 rfl (by decide) (by decide) v rfl HGa.out g0 1 [.string y, .int .i64 f2.k, .string f2.x, .int .i64 f2.n, .string f2.m, .slice f2.q f2.ql f2.qc, .int .i64 f2.li, .int .i64 f2.co] rfl rfl HNa.out (fun u hu => by simp at hu; rcases hu with rfl | rfl | rfl | rfl | rfl | rfl | rfl | rfl <;> rfl) (by have := HVN.out; have := HN.out; omega) HXa.out.ex.size ?_
                  intro gb cb wb hGR hgr hob
                  have HGb : Hid (GR (fun w D F => (isAt st8 → PA w D (L ++ [(y, e)]) F) ∧ NT w D) 121 8 w wb ⟨some ⟨gb, 0, none⟩, v.n + 1, cb⟩) := hGR _ (kp_pan HKN.out) (fun F h => ⟨fun z => PA.snoc (HIa.out z) (h.1 z), h.2⟩)
                  have exb := Ex.ofGrown hgr (S := fun k => (slV v).ownBlock = some k) (fun _ z => z.symm)
                  have HXb := hide (HXa.out.oth exb (fun k z => (hob k z).1))
                  clear hGR hgr hob exb HXa HGa HIa HNa
                  refine hK.out _ _ ?_ (fun hHeld => ?_)
                  · exact HXb.out.te
                  clear hK K
                  try simp only [Act.put, List.getElem_toArray, List.getElem_cons_zero, List.getElem_cons_succ, List.setIfInBounds_toArray, List.set_cons_zero, List.set_cons_succ]
                  refine wpAnyU_take (i := 11) (v := ?_) [12, 13] rfl (by kernel_rfl) (by kernel_rfl) (by kernel_rfl) (by kernel_rfl) (fun _ _ _ h => h) (Or.inl ⟨by rfl, ?_⟩) (by assumption) ?_
                  rotate_left
                  · (intro w hSw; (try dsimp only at hSw); (skip); go_simp; try (with_reducible rfl))
                  try simp only [Act.put, List.getElem_toArray, List.getElem_cons_zero, List.getElem_cons_succ, List.setIfInBounds_toArray, List.set_cons_zero, List.set_cons_succ]
                  refine wpAnyU_take (i := 12) (v := ?_) [13] rfl (by kernel_rfl) (by kernel_rfl) (by kernel_rfl) (by kernel_rfl) (fun _ _ _ h => h) (Or.inl ⟨by rfl, ?_⟩) (by assumption) ?_
                  rotate_left
                  · (intro w hSw; (try dsimp only at hSw); (skip); go_simp; try (with_reducible rfl))
                  try simp only [Act.put, List.getElem_toArray, List.getElem_cons_zero, List.getElem_cons_succ, List.setIfInBounds_toArray, List.set_cons_zero, List.set_cons_succ]
                  refine wpAnyU_ready (rs := [13]) (by kernel_rfl) (by simp) ?_
                  refine AllReadyU.last rfl (fun K hK => ?_)
                  have Y7 := HXb.out.te.c7
                  have YF7 := HXb.out.te.fz 7
                  go_simp
                  refine hK.out _ _ ?_
                  clear hK K
                  try simp only [Act.put, List.getElem_toArray, List.getElem_cons_zero, List.getElem_cons_succ, List.setIfInBounds_toArray, List.set_cons_zero, List.set_cons_succ]
                  refine wpAnyU_done (by kernel_rfl) ?_ _
                  have HXf := hide (HXb.out.set (HXb.out.te.put7 ⟨some ⟨gb, 0, none⟩, v.n + 1, cb⟩))
                  have HGf : Hid (GR (fun w D F => (isAt st8 → PA w D (L ++ [(y, e)]) F) ∧ NT w D) 121 8 w (wb.setCell ⟨q, 7, none⟩ (.slice (some ⟨gb, 0, none⟩) (v.n + 1) cb)) ⟨some ⟨gb, 0, none⟩, v.n + 1, cb⟩) := GR.keep (kp_pan HKN.out) HGb.out ((Ex.refl (fun k => k = q) wb).set (p := q) rfl _) (fun k z => .inl (by have := HB.out; omega))
                  dsimp only at HXf
                  clear HXb HGb Y7 YF7
                  go_upto_region 5 with fail
                  generalize wb.setCell ⟨q, 7, none⟩ (.slice (some ⟨gb, 0, none⟩) (v.n + 1) cb) = wf at *
                  have HAC := hide (acceptK_any wf HXf.out.ins bCOM)
                  have HDA9 : Hid (DA d (acceptS s bCOM st8).2) := acceptS_da HDA8.out _
                  have HAT10 : Hid (isAt (acceptS s bCOM st8).2 → isAt st8) := isAt.acc
                  generalize hacc : acceptS s bCOM st8 = ac at *
                  obtain ⟨bo, st10⟩ := ac
                  dsimp only at HAC HDA9 HAT10
                  unfold bCOM at HAC
                  go_wp2_with fail
                  refine HAC.out.mono ?_
                  rintro e9 wg ⟨rfl, hex, hi⟩
                  have HXg := hide (HXf.out.call hex hi)
                  have HGg : Hid (GR (fun w D F => (isAt st10 → PA w D (L ++ [(y, e)]) F) ∧ NT w D) 121 8 w wg ⟨some ⟨gb, 0, none⟩, v.n + 1, cb⟩) := GR.imp (GR.keep (kp_pan HKN.out) HGf.out hex (fun k z => .inl (by have := HB.out; omega))) (fun F h => ⟨fun z => h.1 (HAT10.out z), h.2⟩)
                  have hrel2 : ∃ m2, m2 < m0 ∧ CRL B p a cp s w q N d l c ⟨some ⟨g, 0, none⟩, 1, 1⟩ NT (L0, st9) (.bool bo) wg m2 := by
                    have hsr := HSR.out
                    cases bo
                    · rw [if_neg (by simp)] at hsr
                      injection hsr with hsr
                      injection hsr with hs1 hs2
                      have h10 : st10 = st8 := by
                        unfold acceptS at hacc
                        split at hacc
                        · injection hacc with q1 q2; cases q1
                        · injection hacc with q1 q2; exact q2.symm
                      exact ⟨0, by have := HM8.out; omega, L ++ [(y, e)], st10, _, HXg.out, HGg.out, HDA9.out, by have := HVN.out; have := HM8.out; show v.n + 1 + 0 ≤ N; omega, .inr ⟨rfl, rfl, by rw [← HLL.out, ← hs1], by rw [h10]; exact hs2⟩⟩
                    · rw [if_pos (by rfl)] at hsr
                      split at hsr
                      · cases hsr
                      · next L3 st5 h3 =>
                        injection hsr with hsr
                        injection hsr with hs1 hs2
                        have hs2 : st5 = st9 := hs2
                        rw [hs2] at h3
                        exact ⟨m8, by have := HM8.out; omega, L ++ [(y, e)], st10, _, HXg.out, HGg.out, HDA9.out, by have := HVN.out; have := HM8.out; show v.n + 1 + m8 ≤ N; omega, .inl ⟨rfl, L3, h3, by rw [← HLL.out, ← hs1, List.append_assoc]; rfl⟩⟩
                  obtain ⟨m2, hm2, hr2⟩ := hrel2
                  clear hex hi HXf HGf HAC HXg HGg HDA9 HAT10 hacc
                  go_wp2
                  go_roundw
                  case rel => exact ⟨m2, hr2⟩
                  case measure => exact lm_lt hr2 (by rw [HLM.out]; exact hm2)
        · have hmo : isMode s st6 = true := by rw [HAX.out, hN, hS]; rfl
          have hms := HMO.out.1 hmo
          injection hms with hy h7
          clear HMO hmo HAX
          rw [← h7] at HTC
          go_upto_region 8 with (go_at_call 72; refine (atK_any _ HX.out.ins _).mono ?_; rintro e9 wq ⟨rfl, hwq⟩; subst wq; simp only [hN, hS])
          go_wp2_with fail
          refine HTC.out.mono ?_
          rintro e9 w5 ⟨rfl, hex, hi⟩
          have HX5 := hide (HX.out.call hex hi)
          have HG5 : Hid (GR (fun w D F => (isAt st7 → PA w D L F) ∧ NT w D) 121 8 w w5 v) := GR.imp (GR.keep (kp_pan HKN.out) HG.out hex (fun k z => .inl (by have := HB.out; omega))) (fun F h => ⟨fun z => h.1 (HAT6.out z), h.2⟩)
          generalize (takeS s 5 st6).1 = ty at *
          have hfl := fld81 ty w5
          unfold tkV at hfl ⊢
          rw [← hy] at hfl ⊢
          clear hex hi HX HG HTC h7 hy hN hS
          simp only []
          go_upto_region 9 with fail
          clear hfl
          have HX7 : Hid (SX B p a cp s w w5.drew q st7 ⟨4, nb, ⟨some ⟨g, 0, none⟩, 1, 1⟩, nl, nl, nl, nl, v, l, c⟩) := HX5.out.low (Ex.refl _ _).drew
          have HG7 : Hid (GR (fun w D F => (isAt st7 → PA w D L F) ∧ NT w D) 121 8 w w5.drew v) := GR.keep (kp_pan HKN.out) HG5.out ((Ex.refl (fun _ => False) w5).drew) (fun _ z => z.elim)
          clear HX5 HG5
          refine wp_region_until (fun w6 => SK w6 q ⟨4, nb, ⟨some ⟨g, 0, none⟩, 1, 1⟩, nl, nl, nl, nl, v, l, c⟩) 13 (by kernel_rfl) (HX7.out.te) (fun hHeld => ?_)
          generalize w5.drew = wd at *
          refine wpAnyU_take (i := 0) (v := ?_) [13] rfl (by kernel_rfl) (by kernel_rfl) (by kernel_rfl) (by kernel_rfl) (fun _ _ _ h => h) (Or.inl ⟨by rfl, ?_⟩) (by assumption) ?_
          rotate_left
          · (intro w hSw; (try dsimp only at hSw); (skip); go_simp; try (with_reducible rfl))
          try simp only [Act.put, List.getElem_toArray, List.getElem_cons_zero, List.getElem_cons_succ, List.setIfInBounds_toArray, List.set_cons_zero, List.set_cons_succ]
          refine wpAnyU_take (i := 1) (v := ?_) [13] rfl (by kernel_rfl) (by kernel_rfl) (by kernel_rfl) (by kernel_rfl) (fun _ _ _ h => h) (Or.inl ⟨by rfl, ?_⟩) (by assumption) ?_
          rotate_left
          · (intro w hSw; (try dsimp only at hSw); (skip); go_simp; try (with_reducible rfl))
          try simp only [Act.put, List.getElem_toArray, List.getElem_cons_zero, List.getElem_cons_succ, List.setIfInBounds_toArray, List.set_cons_zero, List.set_cons_succ]
          refine wpAnyU_take (i := 2) (v := ?_) [13] rfl (by kernel_rfl) (by kernel_rfl) (by kernel_rfl) (by kernel_rfl) (fun _ _ _ h => h) (Or.inl ⟨by rfl, ?_⟩) (by assumption) ?_
          rotate_left
          · (intro w hSw; (try dsimp only at hSw); (skip); go_simp; try (with_reducible rfl))
          try simp only [Act.put, List.getElem_toArray, List.getElem_cons_zero, List.getElem_cons_succ, List.setIfInBounds_toArray, List.set_cons_zero, List.set_cons_succ]
          refine wpAnyU_take (i := 3) (v := ?_) [13] rfl (by kernel_rfl) (by kernel_rfl) (by kernel_rfl) (by kernel_rfl) (fun _ _ _ h => h) (Or.inl ⟨by rfl, ?_⟩) (by assumption) ?_
          rotate_left
          · (intro w hSw; (try dsimp only at hSw); (skip); go_simp; try (with_reducible rfl))
          try simp only [Act.put, List.getElem_toArray, List.getElem_cons_zero, List.getElem_cons_succ, List.setIfInBounds_toArray, List.set_cons_zero, List.set_cons_succ]
          refine wpAnyU_take (i := 4) (v := ?_) [13] rfl (by kernel_rfl) (by kernel_rfl) (by kernel_rfl) (by kernel_rfl) (fun _ _ _ h => h) (Or.inl ⟨by rfl, ?_⟩) (by assumption) ?_
          rotate_left
          · (intro w hSw; (try dsimp only at hSw); (have z7 := hSw.c7); go_simp; try (with_reducible rfl))
          try simp only [Act.put, List.getElem_toArray, List.getElem_cons_zero, List.getElem_cons_succ, List.setIfInBounds_toArray, List.set_cons_zero, List.set_cons_succ]
          refine wpAnyU_take (i := 5) (v := ?_) [13] rfl (by kernel_rfl) (by kernel_rfl) (by kernel_rfl) (by kernel_rfl) (fun _ _ _ h => h) (Or.inl ⟨by rfl, ?_⟩) (by assumption) ?_
          rotate_left
          · (intro w hSw; (try dsimp only at hSw); (skip); go_simp; try (with_reducible rfl))
          try simp only [Act.put, List.getElem_toArray, List.getElem_cons_zero, List.getElem_cons_succ, List.setIfInBounds_toArray, List.set_cons_zero, List.set_cons_succ]
          refine wpAnyU_take (i := 6) (v := ?_) [13] rfl (by kernel_rfl) (by kernel_rfl) (by kernel_rfl) (by kernel_rfl) (fun _ _ _ h => h) (Or.inl ⟨by rfl, ?_⟩) (by assumption) ?_
          rotate_left
          · (intro w hSw; (try dsimp only at hSw); (skip); go_simp; try (with_reducible rfl))
          try simp only [Act.put, List.getElem_toArray, List.getElem_cons_zero, List.getElem_cons_succ, List.setIfInBounds_toArray, List.set_cons_zero, List.set_cons_succ]
          refine wpAnyU_ready (rs := [7]) (by kernel_rfl) (by simp) ?_
          refine (AllReadyU.cons rfl (fun K hK => ?_) AllReadyU.nil)
          · refine step_call rfl 93 #[.pointer (some ⟨p, 0, none⟩)] (by simp [go_sem]) (HEC.out wd HX7.out.ins) ?_
            rintro e9 wc ⟨f2, rfl, hex, hi, hti⟩
            have HXc := hide (HX7.out.call hex hi)
            have HGc : Hid (GR (fun w D F => (isAt st8 → PA w D L F) ∧ NT w D) 121 8 w wc v) := GR.imp (GR.keep (kp_pan HKN.out) HG7.out hex (fun k z => .inl (by have := HB.out; omega))) (fun F h => ⟨fun z => h.1 (HAT8.out z), h.2⟩)
            have HIc : Hid (isAt st8 → ET wc (DG w v) e f2) := fun z => (hti z).keep (Ex.refl (fun _ => False) _) (fun _ z => z.elim) (fun g z => .inl (by
              rcases z with z | z
              · have := HX7.out.ex.size; omega
              · obtain ⟨F, h1, _⟩ := HG7.out
                exact (h1.lt g z).2))
            clear hex hi hti HX7 HG7
            refine ⟨_, rfl, ?_⟩
            unfold xV
            refine hK.out _ _ ?_ (fun hHeld => ?_)
            · exact HXc.out.te
            clear hK K
            try simp only [Act.put, List.getElem_toArray, List.getElem_cons_zero, List.getElem_cons_succ, List.setIfInBounds_toArray, List.set_cons_zero, List.set_cons_succ]
            refine wpAnyU_take (i := 8) (v := ?_) [13] rfl (by kernel_rfl) (by kernel_rfl) (by kernel_rfl) (by kernel_rfl) (fun _ _ _ h => h) (Or.inl ⟨by rfl, ?_⟩) (by assumption) ?_
            rotate_left
            · (intro w hSw; (try dsimp only at hSw); (skip); go_simp; try (with_reducible rfl))
            try simp only [Act.put, List.getElem_toArray, List.getElem_cons_zero, List.getElem_cons_succ, List.setIfInBounds_toArray, List.set_cons_zero, List.set_cons_succ]
            refine wpAnyU_ready (rs := [9]) (by kernel_rfl) (by simp) ?_
            refine (AllReadyU.cons rfl (fun K hK => ?_) AllReadyU.nil)
            · go_simp
              have HXa := hide (HXc.out.low ((Ex.refl (fun _ => False) wc).alloc (.cells #[.string y, .int .i64 f2.k, .string f2.x, .int .i64 f2.n, .string f2.m, .slice f2.q f2.ql f2.qc, .int .i64 f2.li, .int .i64 f2.co] 121)))
              have HGa : Hid (GR (fun w D F => (isAt st8 → PA w D L F) ∧ NT w D) 121 8 w (wc.alloc (.cells #[.string y, .int .i64 f2.k, .string f2.x, .int .i64 f2.n, .string f2.m, .slice f2.q f2.ql f2.qc, .int .i64 f2.li, .int .i64 f2.co] 121)) v) := GR.keep (kp_pan HKN.out) HGc.out ((Ex.refl (fun _ => False) wc).alloc _) (fun _ z => z.elim)
              have HIa : Hid (isAt st8 → ET (wc.alloc (.cells #[.string y, .int .i64 f2.k, .string f2.x, .int .i64 f2.n, .string f2.m, .slice f2.q f2.ql f2.qc, .int .i64 f2.li, .int .i64 f2.co] 121)) (DG w v) e f2) := fun z => (HIc.out z).keep ((Ex.refl (fun _ => False) wc).alloc _) (fun _ z => z.elim) (fun g z => .inl z)
              have HNa : Hid (∀ (jq : Nat) (u : Value), [.string y, .int .i64 f2.k, .string f2.x, .int .i64 f2.n, .string f2.m, .slice f2.q f2.ql f2.qc, .int .i64 f2.li, .int .i64 f2.co][jq]? = some u → (wc.alloc (.cells #[.string y, .int .i64 f2.k, .string f2.x, .int .i64 f2.n, .string f2.m, .slice f2.q f2.ql f2.qc, .int .i64 f2.li, .int .i64 f2.co] 121)).cell? ((⟨wc.heap.size, 0, none⟩ : Addr).add jq) = some u) := fun jq u hj => new_cells wc [.string y, .int .i64 f2.k, .string f2.x, .int .i64 f2.n, .string f2.m, .slice f2.q f2.ql f2.qc, .int .i64 f2.li, .int .i64 f2.co] 121 jq u hj
              generalize wc.alloc (.cells #[.string y, .int .i64 f2.k, .string f2.x, .int .i64 f2.n, .string f2.m, .slice f2.q f2.ql f2.qc, .int .i64 f2.li, .int .i64 f2.co] 121) = wa at *
              generalize wc.heap.size = g0 at *
              clear HXc HGc HIc
              refine hK.out _ _ ?_ (fun hHeld => ?_)
              · exact HXa.out.te
              clear hK K
              try simp only [Act.put, List.getElem_toArray, List.getElem_cons_zero, List.getElem_cons_succ, List.setIfInBounds_toArray, List.set_cons_zero, List.set_cons_succ]
              refine wpAnyU_ready (rs := [10]) (by kernel_rfl) (by simp) ?_
              refine (AllReadyU.cons rfl (fun K hK => ?_) AllReadyU.nil)
              · refine step_push (w0 := w) rfl (.tmp 37) (.tmp 42) 61 121 _ 8 104 rfl Try.underlying61 Try.inf121 rfl (by decide) (by decide) v rfl HGa.out g0 1 [.string y, .int .i64 f2.k, .string f2.x, .int .i64 f2.n, .string f2.m, .slice f2.q f2.ql f2.qc, .int .i64 f2.li, .int .i64 f2.co] rfl rfl HNa.out (fun u hu => by simp at hu; rcases hu with rfl | rfl | rfl | rfl | rfl | rfl | rfl | rfl <;> rfl) (by have := HVN.out; have := HN.out; omega) HXa.out.ex.size ?_
                intro gb cb wb hGR hgr hob
                have HGb : Hid (GR (fun w D F => (isAt st8 → PA w D (L ++ [(y, e)]) F) ∧ NT w D) 121 8 w wb ⟨some ⟨gb, 0, none⟩, v.n + 1, cb⟩) := hGR _ (kp_pan HKN.out) (fun F h => ⟨fun z => PA.snoc (HIa.out z) (h.1 z), h.2⟩)
                have exb := Ex.ofGrown hgr (S := fun k => (slV v).ownBlock = some k) (fun _ z => z.symm)
                have HXb := hide (HXa.out.oth exb (fun k z => (hob k z).1))
                clear hGR hgr hob exb HXa HGa HIa HNa
                refine hK.out _ _ ?_ (fun hHeld => ?_)
                · exact HXb.out.te
                clear hK K
                try simp only [Act.put, List.getElem_toArray, List.getElem_cons_zero, List.getElem_cons_succ, List.setIfInBounds_toArray, List.set_cons_zero, List.set_cons_succ]
                refine wpAnyU_take (i := 11) (v := ?_) [12, 13] rfl (by kernel_rfl) (by kernel_rfl) (by kernel_rfl) (by kernel_rfl) (fun _ _ _ h => h) (Or.inl ⟨by rfl, ?_⟩) (by assumption) ?_
                rotate_left
                · (intro w hSw; (try dsimp only at hSw); (skip); go_simp; try (with_reducible rfl))
                try simp only [Act.put, List.getElem_toArray, List.getElem_cons_zero, List.getElem_cons_succ, List.setIfInBounds_toArray, List.set_cons_zero, List.set_cons_succ]
                refine wpAnyU_take (i := 12) (v := ?_) [13] rfl (by kernel_rfl) (by kernel_rfl) (by kernel_rfl) (by kernel_rfl) (fun _ _ _ h => h) (Or.inl ⟨by rfl, ?_⟩) (by assumption) ?_
                rotate_left
                · (intro w hSw; (try dsimp only at hSw); (skip); go_simp; try (with_reducible rfl))
                try simp only [Act.put, List.getElem_toArray, List.getElem_cons_zero, List.getElem_cons_succ, List.setIfInBounds_toArray, List.set_cons_zero, List.set_cons_succ]
                refine wpAnyU_ready (rs := [13]) (by kernel_rfl) (by simp) ?_
                refine AllReadyU.last rfl (fun K hK => ?_)
                have Y7 := HXb.out.te.c7
                have YF7 := HXb.out.te.fz 7
                go_simp
                refine hK.out _ _ ?_
                clear hK K
                try simp only [Act.put, List.getElem_toArray, List.getElem_cons_zero, List.getElem_cons_succ, List.setIfInBounds_toArray, List.set_cons_zero, List.set_cons_succ]
                refine wpAnyU_done (by kernel_rfl) ?_ _
                have HXf := hide (HXb.out.set (HXb.out.te.put7 ⟨some ⟨gb, 0, none⟩, v.n + 1, cb⟩))
                have HGf : Hid (GR (fun w D F => (isAt st8 → PA w D (L ++ [(y, e)]) F) ∧ NT w D) 121 8 w (wb.setCell ⟨q, 7, none⟩ (.slice (some ⟨gb, 0, none⟩) (v.n + 1) cb)) ⟨some ⟨gb, 0, none⟩, v.n + 1, cb⟩) := GR.keep (kp_pan HKN.out) HGb.out ((Ex.refl (fun k => k = q) wb).set (p := q) rfl _) (fun k z => .inl (by have := HB.out; omega))
                dsimp only at HXf
                clear HXb HGb Y7 YF7
                go_upto_region 5 with fail
                generalize wb.setCell ⟨q, 7, none⟩ (.slice (some ⟨gb, 0, none⟩) (v.n + 1) cb) = wf at *
                have HAC := hide (acceptK_any wf HXf.out.ins bCOM)
                have HDA9 : Hid (DA d (acceptS s bCOM st8).2) := acceptS_da HDA8.out _
                have HAT10 : Hid (isAt (acceptS s bCOM st8).2 → isAt st8) := isAt.acc
                generalize hacc : acceptS s bCOM st8 = ac at *
                obtain ⟨bo, st10⟩ := ac
                dsimp only at HAC HDA9 HAT10
                unfold bCOM at HAC
                go_wp2_with fail
                refine HAC.out.mono ?_
                rintro e9 wg ⟨rfl, hex, hi⟩
                have HXg := hide (HXf.out.call hex hi)
                have HGg : Hid (GR (fun w D F => (isAt st10 → PA w D (L ++ [(y, e)]) F) ∧ NT w D) 121 8 w wg ⟨some ⟨gb, 0, none⟩, v.n + 1, cb⟩) := GR.imp (GR.keep (kp_pan HKN.out) HGf.out hex (fun k z => .inl (by have := HB.out; omega))) (fun F h => ⟨fun z => h.1 (HAT10.out z), h.2⟩)
                have hrel2 : ∃ m2, m2 < m0 ∧ CRL B p a cp s w q N d l c ⟨some ⟨g, 0, none⟩, 1, 1⟩ NT (L0, st9) (.bool bo) wg m2 := by
                  have hsr := HSR.out
                  cases bo
                  · rw [if_neg (by simp)] at hsr
                    injection hsr with hsr
                    injection hsr with hs1 hs2
                    have h10 : st10 = st8 := by
                      unfold acceptS at hacc
                      split at hacc
                      · injection hacc with q1 q2; cases q1
                      · injection hacc with q1 q2; exact q2.symm
                    exact ⟨0, by have := HM8.out; omega, L ++ [(y, e)], st10, _, HXg.out, HGg.out, HDA9.out, by have := HVN.out; have := HM8.out; show v.n + 1 + 0 ≤ N; omega, .inr ⟨rfl, rfl, by rw [← HLL.out, ← hs1], by rw [h10]; exact hs2⟩⟩
                  · rw [if_pos (by rfl)] at hsr
                    split at hsr
                    · cases hsr
                    · next L3 st5 h3 =>
                      injection hsr with hsr
                      injection hsr with hs1 hs2
                      have hs2 : st5 = st9 := hs2
                      rw [hs2] at h3
                      exact ⟨m8, by have := HM8.out; omega, L ++ [(y, e)], st10, _, HXg.out, HGg.out, HDA9.out, by have := HVN.out; have := HM8.out; show v.n + 1 + m8 ≤ N; omega, .inl ⟨rfl, L3, h3, by rw [← HLL.out, ← hs1, List.append_assoc]; rfl⟩⟩
                obtain ⟨m2, hm2, hr2⟩ := hrel2
                clear hex hi HXf HGf HAC HXg HGg HDA9 HAT10 hacc
                go_wp2
                go_roundw
                case rel => exact ⟨m2, hr2⟩
                case measure => exact lm_lt hr2 (by rw [HLM.out]; exact hm2)
      · have hmo : isMode s st6 = true := by rw [HAX.out, hN]; rfl
        have hms := HMO.out.1 hmo
        injection hms with hy h7
        clear HMO hmo HAX
        rw [← h7] at HTC
        go_upto_region 8 with (go_at_call 72; refine (atK_any _ HX.out.ins _).mono ?_; rintro e9 wq ⟨rfl, hwq⟩; subst wq; simp only [hN])
        go_wp2_with fail
        refine HTC.out.mono ?_
        rintro e9 w5 ⟨rfl, hex, hi⟩
        have HX5 := hide (HX.out.call hex hi)
        have HG5 : Hid (GR (fun w D F => (isAt st7 → PA w D L F) ∧ NT w D) 121 8 w w5 v) := GR.imp (GR.keep (kp_pan HKN.out) HG.out hex (fun k z => .inl (by have := HB.out; omega))) (fun F h => ⟨fun z => h.1 (HAT6.out z), h.2⟩)
        generalize (takeS s 5 st6).1 = ty at *
        have hfl := fld81 ty w5
        unfold tkV at hfl ⊢
        rw [← hy] at hfl ⊢
        clear hex hi HX HG HTC h7 hy hN 
        simp only []
        go_upto_region 9 with fail
        clear hfl
        have HX7 : Hid (SX B p a cp s w w5.drew q st7 ⟨4, nb, ⟨some ⟨g, 0, none⟩, 1, 1⟩, nl, nl, nl, nl, v, l, c⟩) := HX5.out.low (Ex.refl _ _).drew
        have HG7 : Hid (GR (fun w D F => (isAt st7 → PA w D L F) ∧ NT w D) 121 8 w w5.drew v) := GR.keep (kp_pan HKN.out) HG5.out ((Ex.refl (fun _ => False) w5).drew) (fun _ z => z.elim)
        clear HX5 HG5
        refine wp_region_until (fun w6 => SK w6 q ⟨4, nb, ⟨some ⟨g, 0, none⟩, 1, 1⟩, nl, nl, nl, nl, v, l, c⟩) 13 (by kernel_rfl) (HX7.out.te) (fun hHeld => ?_)
        generalize w5.drew = wd at *
        refine wpAnyU_take (i := 0) (v := ?_) [13] rfl (by kernel_rfl) (by kernel_rfl) (by kernel_rfl) (by kernel_rfl) (fun _ _ _ h => h) (Or.inl ⟨by rfl, ?_⟩) (by assumption) ?_
        rotate_left
        · (intro w hSw; (try dsimp only at hSw); (skip); go_simp; try (with_reducible rfl))
        try simp only [Act.put, List.getElem_toArray, List.getElem_cons_zero, List.getElem_cons_succ, List.setIfInBounds_toArray, List.set_cons_zero, List.set_cons_succ]
        refine wpAnyU_take (i := 1) (v := ?_) [13] rfl (by kernel_rfl) (by kernel_rfl) (by kernel_rfl) (by kernel_rfl) (fun _ _ _ h => h) (Or.inl ⟨by rfl, ?_⟩) (by assumption) ?_
        rotate_left
        · (intro w hSw; (try dsimp only at hSw); (skip); go_simp; try (with_reducible rfl))
        try simp only [Act.put, List.getElem_toArray, List.getElem_cons_zero, List.getElem_cons_succ, List.setIfInBounds_toArray, List.set_cons_zero, List.set_cons_succ]
        refine wpAnyU_take (i := 2) (v := ?_) [13] rfl (by kernel_rfl) (by kernel_rfl) (by kernel_rfl) (by kernel_rfl) (fun _ _ _ h => h) (Or.inl ⟨by rfl, ?_⟩) (by assumption) ?_
        rotate_left
        · (intro w hSw; (try dsimp only at hSw); (skip); go_simp; try (with_reducible rfl))
        try simp only [Act.put, List.getElem_toArray, List.getElem_cons_zero, List.getElem_cons_succ, List.setIfInBounds_toArray, List.set_cons_zero, List.set_cons_succ]
        refine wpAnyU_take (i := 3) (v := ?_) [13] rfl (by kernel_rfl) (by kernel_rfl) (by kernel_rfl) (by kernel_rfl) (fun _ _ _ h => h) (Or.inl ⟨by rfl, ?_⟩) (by assumption) ?_
        rotate_left
        · (intro w hSw; (try dsimp only at hSw); (skip); go_simp; try (with_reducible rfl))
        try simp only [Act.put, List.getElem_toArray, List.getElem_cons_zero, List.getElem_cons_succ, List.setIfInBounds_toArray, List.set_cons_zero, List.set_cons_succ]
        refine wpAnyU_take (i := 4) (v := ?_) [13] rfl (by kernel_rfl) (by kernel_rfl) (by kernel_rfl) (by kernel_rfl) (fun _ _ _ h => h) (Or.inl ⟨by rfl, ?_⟩) (by assumption) ?_
        rotate_left
        · (intro w hSw; (try dsimp only at hSw); (have z7 := hSw.c7); go_simp; try (with_reducible rfl))
        try simp only [Act.put, List.getElem_toArray, List.getElem_cons_zero, List.getElem_cons_succ, List.setIfInBounds_toArray, List.set_cons_zero, List.set_cons_succ]
        refine wpAnyU_take (i := 5) (v := ?_) [13] rfl (by kernel_rfl) (by kernel_rfl) (by kernel_rfl) (by kernel_rfl) (fun _ _ _ h => h) (Or.inl ⟨by rfl, ?_⟩) (by assumption) ?_
        rotate_left
        · (intro w hSw; (try dsimp only at hSw); (skip); go_simp; try (with_reducible rfl))
        try simp only [Act.put, List.getElem_toArray, List.getElem_cons_zero, List.getElem_cons_succ, List.setIfInBounds_toArray, List.set_cons_zero, List.set_cons_succ]
        refine wpAnyU_take (i := 6) (v := ?_) [13] rfl (by kernel_rfl) (by kernel_rfl) (by kernel_rfl) (by kernel_rfl) (fun _ _ _ h => h) (Or.inl ⟨by rfl, ?_⟩) (by assumption) ?_
        rotate_left
        · (intro w hSw; (try dsimp only at hSw); (skip); go_simp; try (with_reducible rfl))
        try simp only [Act.put, List.getElem_toArray, List.getElem_cons_zero, List.getElem_cons_succ, List.setIfInBounds_toArray, List.set_cons_zero, List.set_cons_succ]
        refine wpAnyU_ready (rs := [7]) (by kernel_rfl) (by simp) ?_
        refine (AllReadyU.cons rfl (fun K hK => ?_) AllReadyU.nil)
        · refine step_call rfl 93 #[.pointer (some ⟨p, 0, none⟩)] (by simp [go_sem]) (HEC.out wd HX7.out.ins) ?_
          rintro e9 wc ⟨f2, rfl, hex, hi, hti⟩
          have HXc := hide (HX7.out.call hex hi)
          have HGc : Hid (GR (fun w D F => (isAt st8 → PA w D L F) ∧ NT w D) 121 8 w wc v) := GR.imp (GR.keep (kp_pan HKN.out) HG7.out hex (fun k z => .inl (by have := HB.out; omega))) (fun F h => ⟨fun z => h.1 (HAT8.out z), h.2⟩)
          have HIc : Hid (isAt st8 → ET wc (DG w v) e f2) := fun z => (hti z).keep (Ex.refl (fun _ => False) _) (fun _ z => z.elim) (fun g z => .inl (by
            rcases z with z | z
            · have := HX7.out.ex.size; omega
            · obtain ⟨F, h1, _⟩ := HG7.out
              exact (h1.lt g z).2))
          clear hex hi hti HX7 HG7
          refine ⟨_, rfl, ?_⟩
          unfold xV
          refine hK.out _ _ ?_ (fun hHeld => ?_)
          · exact HXc.out.te
          clear hK K
          try simp only [Act.put, List.getElem_toArray, List.getElem_cons_zero, List.getElem_cons_succ, List.setIfInBounds_toArray, List.set_cons_zero, List.set_cons_succ]
          refine wpAnyU_take (i := 8) (v := ?_) [13] rfl (by kernel_rfl) (by kernel_rfl) (by kernel_rfl) (by kernel_rfl) (fun _ _ _ h => h) (Or.inl ⟨by rfl, ?_⟩) (by assumption) ?_
          rotate_left
          · (intro w hSw; (try dsimp only at hSw); (skip); go_simp; try (with_reducible rfl))
          try simp only [Act.put, List.getElem_toArray, List.getElem_cons_zero, List.getElem_cons_succ, List.setIfInBounds_toArray, List.set_cons_zero, List.set_cons_succ]
          refine wpAnyU_ready (rs := [9]) (by kernel_rfl) (by simp) ?_
          refine (AllReadyU.cons rfl (fun K hK => ?_) AllReadyU.nil)
          · go_simp
            have HXa := hide (HXc.out.low ((Ex.refl (fun _ => False) wc).alloc (.cells #[.string y, .int .i64 f2.k, .string f2.x, .int .i64 f2.n, .string f2.m, .slice f2.q f2.ql f2.qc, .int .i64 f2.li, .int .i64 f2.co] 121)))
            have HGa : Hid (GR (fun w D F => (isAt st8 → PA w D L F) ∧ NT w D) 121 8 w (wc.alloc (.cells #[.string y, .int .i64 f2.k, .string f2.x, .int .i64 f2.n, .string f2.m, .slice f2.q f2.ql f2.qc, .int .i64 f2.li, .int .i64 f2.co] 121)) v) := GR.keep (kp_pan HKN.out) HGc.out ((Ex.refl (fun _ => False) wc).alloc _) (fun _ z => z.elim)
            have HIa : Hid (isAt st8 → ET (wc.alloc (.cells #[.string y, .int .i64 f2.k, .string f2.x, .int .i64 f2.n, .string f2.m, .slice f2.q f2.ql f2.qc, .int .i64 f2.li, .int .i64 f2.co] 121)) (DG w v) e f2) := fun z => (HIc.out z).keep ((Ex.refl (fun _ => False) wc).alloc _) (fun _ z => z.elim) (fun g z => .inl z)
            have HNa : Hid (∀ (jq : Nat) (u : Value), [.string y, .int .i64 f2.k, .string f2.x, .int .i64 f2.n, .string f2.m, .slice f2.q f2.ql f2.qc, .int .i64 f2.li, .int .i64 f2.co][jq]? = some u → (wc.alloc (.cells #[.string y, .int .i64 f2.k, .string f2.x, .int .i64 f2.n, .string f2.m, .slice f2.q f2.ql f2.qc, .int .i64 f2.li, .int .i64 f2.co] 121)).cell? ((⟨wc.heap.size, 0, none⟩ : Addr).add jq) = some u) := fun jq u hj => new_cells wc [.string y, .int .i64 f2.k, .string f2.x, .int .i64 f2.n, .string f2.m, .slice f2.q f2.ql f2.qc, .int .i64 f2.li, .int .i64 f2.co] 121 jq u hj
            generalize wc.alloc (.cells #[.string y, .int .i64 f2.k, .string f2.x, .int .i64 f2.n, .string f2.m, .slice f2.q f2.ql f2.qc, .int .i64 f2.li, .int .i64 f2.co] 121) = wa at *
            generalize wc.heap.size = g0 at *
            clear HXc HGc HIc
            refine hK.out _ _ ?_ (fun hHeld => ?_)
            · exact HXa.out.te
            clear hK K
            try simp only [Act.put, List.getElem_toArray, List.getElem_cons_zero, List.getElem_cons_succ, List.setIfInBounds_toArray, List.set_cons_zero, List.set_cons_succ]
            refine wpAnyU_ready (rs := [10]) (by kernel_rfl) (by simp) ?_
            refine (AllReadyU.cons rfl (fun K hK => ?_) AllReadyU.nil)
            · refine step_push (w0 := w) rfl (.tmp 37) (.tmp 42) 61 121 _ 8 104 rfl Try.underlying61 Try.inf121 rfl (by decide) (by decide) v rfl HGa.out g0 1 [.string y, .int .i64 f2.k, .string f2.x, .int .i64 f2.n, .string f2.m, .slice f2.q f2.ql f2.qc, .int .i64 f2.li, .int .i64 f2.co] rfl rfl HNa.out (fun u hu => by simp at hu; rcases hu with rfl | rfl | rfl | rfl | rfl | rfl | rfl | rfl <;> rfl) (by have := HVN.out; have := HN.out; omega) HXa.out.ex.size ?_
              intro gb cb wb hGR hgr hob
              have HGb : Hid (GR (fun w D F => (isAt st8 → PA w D (L ++ [(y, e)]) F) ∧ NT w D) 121 8 w wb ⟨some ⟨gb, 0, none⟩, v.n + 1, cb⟩) := hGR _ (kp_pan HKN.out) (fun F h => ⟨fun z => PA.snoc (HIa.out z) (h.1 z), h.2⟩)
              have exb := Ex.ofGrown hgr (S := fun k => (slV v).ownBlock = some k) (fun _ z => z.symm)
              have HXb := hide (HXa.out.oth exb (fun k z => (hob k z).1))
              clear hGR hgr hob exb HXa HGa HIa HNa
              refine hK.out _ _ ?_ (fun hHeld => ?_)
              · exact HXb.out.te
              clear hK K
              try simp only [Act.put, List.getElem_toArray, List.getElem_cons_zero, List.getElem_cons_succ, List.setIfInBounds_toArray, List.set_cons_zero, List.set_cons_succ]
              refine wpAnyU_take (i := 11) (v := ?_) [12, 13] rfl (by kernel_rfl) (by kernel_rfl) (by kernel_rfl) (by kernel_rfl) (fun _ _ _ h => h) (Or.inl ⟨by rfl, ?_⟩) (by assumption) ?_
              rotate_left
              · (intro w hSw; (try dsimp only at hSw); (skip); go_simp; try (with_reducible rfl))
              try simp only [Act.put, List.getElem_toArray, List.getElem_cons_zero, List.getElem_cons_succ, List.setIfInBounds_toArray, List.set_cons_zero, List.set_cons_succ]
              refine wpAnyU_take (i := 12) (v := ?_) [13] rfl (by kernel_rfl) (by kernel_rfl) (by kernel_rfl) (by kernel_rfl) (fun _ _ _ h => h) (Or.inl ⟨by rfl, ?_⟩) (by assumption) ?_
              rotate_left
              · (intro w hSw; (try dsimp only at hSw); (skip); go_simp; try (with_reducible rfl))
              try simp only [Act.put, List.getElem_toArray, List.getElem_cons_zero, List.getElem_cons_succ, List.setIfInBounds_toArray, List.set_cons_zero, List.set_cons_succ]
              refine wpAnyU_ready (rs := [13]) (by kernel_rfl) (by simp) ?_
              refine AllReadyU.last rfl (fun K hK => ?_)
              have Y7 := HXb.out.te.c7
              have YF7 := HXb.out.te.fz 7
              go_simp
              refine hK.out _ _ ?_
              clear hK K
              try simp only [Act.put, List.getElem_toArray, List.getElem_cons_zero, List.getElem_cons_succ, List.setIfInBounds_toArray, List.set_cons_zero, List.set_cons_succ]
              refine wpAnyU_done (by kernel_rfl) ?_ _
              have HXf := hide (HXb.out.set (HXb.out.te.put7 ⟨some ⟨gb, 0, none⟩, v.n + 1, cb⟩))
              have HGf : Hid (GR (fun w D F => (isAt st8 → PA w D (L ++ [(y, e)]) F) ∧ NT w D) 121 8 w (wb.setCell ⟨q, 7, none⟩ (.slice (some ⟨gb, 0, none⟩) (v.n + 1) cb)) ⟨some ⟨gb, 0, none⟩, v.n + 1, cb⟩) := GR.keep (kp_pan HKN.out) HGb.out ((Ex.refl (fun k => k = q) wb).set (p := q) rfl _) (fun k z => .inl (by have := HB.out; omega))
              dsimp only at HXf
              clear HXb HGb Y7 YF7
              go_upto_region 5 with fail
              generalize wb.setCell ⟨q, 7, none⟩ (.slice (some ⟨gb, 0, none⟩) (v.n + 1) cb) = wf at *
              have HAC := hide (acceptK_any wf HXf.out.ins bCOM)
              have HDA9 : Hid (DA d (acceptS s bCOM st8).2) := acceptS_da HDA8.out _
              have HAT10 : Hid (isAt (acceptS s bCOM st8).2 → isAt st8) := isAt.acc
              generalize hacc : acceptS s bCOM st8 = ac at *
              obtain ⟨bo, st10⟩ := ac
              dsimp only at HAC HDA9 HAT10
              unfold bCOM at HAC
              go_wp2_with fail
              refine HAC.out.mono ?_
              rintro e9 wg ⟨rfl, hex, hi⟩
              have HXg := hide (HXf.out.call hex hi)
              have HGg : Hid (GR (fun w D F => (isAt st10 → PA w D (L ++ [(y, e)]) F) ∧ NT w D) 121 8 w wg ⟨some ⟨gb, 0, none⟩, v.n + 1, cb⟩) := GR.imp (GR.keep (kp_pan HKN.out) HGf.out hex (fun k z => .inl (by have := HB.out; omega))) (fun F h => ⟨fun z => h.1 (HAT10.out z), h.2⟩)
              have hrel2 : ∃ m2, m2 < m0 ∧ CRL B p a cp s w q N d l c ⟨some ⟨g, 0, none⟩, 1, 1⟩ NT (L0, st9) (.bool bo) wg m2 := by
                have hsr := HSR.out
                cases bo
                · rw [if_neg (by simp)] at hsr
                  injection hsr with hsr
                  injection hsr with hs1 hs2
                  have h10 : st10 = st8 := by
                    unfold acceptS at hacc
                    split at hacc
                    · injection hacc with q1 q2; cases q1
                    · injection hacc with q1 q2; exact q2.symm
                  exact ⟨0, by have := HM8.out; omega, L ++ [(y, e)], st10, _, HXg.out, HGg.out, HDA9.out, by have := HVN.out; have := HM8.out; show v.n + 1 + 0 ≤ N; omega, .inr ⟨rfl, rfl, by rw [← HLL.out, ← hs1], by rw [h10]; exact hs2⟩⟩
                · rw [if_pos (by rfl)] at hsr
                  split at hsr
                  · cases hsr
                  · next L3 st5 h3 =>
                    injection hsr with hsr
                    injection hsr with hs1 hs2
                    have hs2 : st5 = st9 := hs2
                    rw [hs2] at h3
                    exact ⟨m8, by have := HM8.out; omega, L ++ [(y, e)], st10, _, HXg.out, HGg.out, HDA9.out, by have := HVN.out; have := HM8.out; show v.n + 1 + m8 ≤ N; omega, .inl ⟨rfl, L3, h3, by rw [← HLL.out, ← hs1, List.append_assoc]; rfl⟩⟩
              obtain ⟨m2, hm2, hr2⟩ := hrel2
              clear hex hi HXf HGf HAC HXg HGg HDA9 HAT10 hacc
              go_wp2
              go_roundw
              case rel => exact ⟨m2, hr2⟩
              case measure => exact lm_lt hr2 (by rw [HLM.out]; exact hm2)
    · have HRR2 : Hid ((.rung e0 L l c .nil, st6) = RR) := by
        show _ = _
        rw [← HRR.out, hL, hst]
      have HAT9b : Hid (isAt st6 → isAt st2) := by rw [hst]; exact HAT9.out
      clear hL hst h0 HLM HVN HDA HRR
      have HF : Hid (StPost B p q a cp s w RR (.returned (.tuple #[])) wr) := by
        rw [← HRR2.out]
        obtain ⟨F, g1, g2, ht⟩ := HG.out.fin (kp_pan HKN.out)
        rw [HTE.out] at ht
        exact HX.out.fin (fun z => ⟨rfl, g, f1, v, F, [], rfl, ht.1.2, ht.1.1, ht.2 (HAT9b.out z), g1, g2 z, rfl⟩)
      clear HX HG
      go_wp2
      exact bodyPost_ret (v := .tuple #[]) (by simp [results, Try.results76]) rfl HF.out
end
end Go.Proofs.Qxb6500774a
