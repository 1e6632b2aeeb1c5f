import Derived.Test.Qxb6500773aGreatSc2
namespace Go.Proofs.Qxb6500773aGreat
open Go.RowKit

/-- A place in the text. -/
structure Plc where
  off : Nat
  line : Int
  bol : Nat
def seekP (T : Nat → Int) (n : Nat) : Nat → Plc → Bool × Plc
  | 0, p => (false, p)
  | k + 1, p =>
    if p.off < n then
      if T p.off = 10 then seekP T n k ⟨p.off + 1, p.line + 1, p.off + 1⟩
      else if blankP (T p.off) = true then seekP T n k ⟨p.off + 1, p.line, p.bol⟩
      else if T p.off = 99 ∧ p.off = p.bol then seekP T n k ⟨eolE T n (n - p.off) p.off, p.line, p.bol⟩
      else (true, p)
    else (false, p)
theorem eolE_gt (T : Nat → Int) {n i : Nat} (h : i < n) (h10 : T i ≠ 10) : i < eolE T n (n - i) i := by
  rw [eolE_step T h, if_pos h10]
  have := (eolE_rng T n (n - (i + 1)) (i + 1) (by omega)).1
  omega
theorem seek_fuel (T : Nat → Int) (n : Nat) : ∀ k m p, p.off ≤ n → n - p.off ≤ k → n - p.off ≤ m → seekP T n k p = seekP T n m p
  | 0, 0, p, _, _, _ => rfl
  | 0, m + 1, p, _, hk, _ => by rw [seekP, seekP, if_neg (by omega)]
  | k + 1, 0, p, _, _, hm => by rw [seekP, seekP, if_neg (by omega)]
  | k + 1, m + 1, p, hp, hk, hm => by
    rw [seekP, seekP]
    by_cases hlt : p.off < n
    · rw [if_pos hlt, if_pos hlt]
      by_cases h10 : T p.off = 10
      · rw [if_pos h10, if_pos h10]
        exact seek_fuel T n k m _ (by show p.off + 1 ≤ n; omega) (by show n - (p.off + 1) ≤ k; omega) (by show n - (p.off + 1) ≤ m; omega)
      · rw [if_neg h10, if_neg h10]
        by_cases hb : blankP (T p.off) = true
        · rw [if_pos hb, if_pos hb]
          exact seek_fuel T n k m _ (by show p.off + 1 ≤ n; omega) (by show n - (p.off + 1) ≤ k; omega) (by show n - (p.off + 1) ≤ m; omega)
        · rw [if_neg hb, if_neg hb]
          by_cases hc : T p.off = 99 ∧ p.off = p.bol
          · rw [if_pos hc, if_pos hc]
            have h1 := (eolE_rng T n (n - p.off) p.off hp).2
            have h2 := eolE_gt T hlt h10
            exact seek_fuel T n k m _ h1 (by show n - eolE T n (n - p.off) p.off ≤ k; omega) (by show n - eolE T n (n - p.off) p.off ≤ m; omega)
          · rw [if_neg hc, if_neg hc]
    · rw [if_neg hlt, if_neg hlt]
def seekF (T : Nat → Int) (n : Nat) (p : Plc) : Bool × Plc := seekP T n (n - p.off) p
theorem seekF_end {T : Nat → Int} {n : Nat} {p : Plc} (h : ¬ p.off < n) : seekF T n p = (false, p) := by
  unfold seekF
  rw [show n - p.off = 0 by omega, seekP]
theorem seekF_step {T : Nat → Int} {n : Nat} {p : Plc} (h : p.off < n) : seekF T n p =
    if T p.off = 10 then seekF T n ⟨p.off + 1, p.line + 1, p.off + 1⟩
    else if blankP (T p.off) = true then seekF T n ⟨p.off + 1, p.line, p.bol⟩
    else if T p.off = 99 ∧ p.off = p.bol then seekF T n ⟨eolE T n (n - p.off) p.off, p.line, p.bol⟩
    else (true, p) := by
  unfold seekF
  rw [show n - p.off = n - (p.off + 1) + 1 by omega, seekP, if_pos h, show n - (p.off + 1) + 1 = n - p.off by omega]
  by_cases h10 : T p.off = 10
  · rw [if_pos h10, if_pos h10]
  · rw [if_neg h10, if_neg h10]
    by_cases hb : blankP (T p.off) = true
    · rw [if_pos hb, if_pos hb]
    · rw [if_neg hb, if_neg hb]
      by_cases hc : T p.off = 99 ∧ p.off = p.bol
      · rw [if_pos hc, if_pos hc]
        have h1 := (eolE_rng T n (n - p.off) p.off (by omega)).2
        have h2 := eolE_gt T h h10
        exact seek_fuel T n _ _ _ h1 (by show n - eolE T n (n - p.off) p.off ≤ _; omega) (Nat.le_refl _)
      · rw [if_neg hc, if_neg hc]
/-- A place is in order. -/
structure PlOk (n : Nat) (p : Plc) : Prop where
  off : p.off ≤ n
  line : 1 ≤ p.line ∧ p.line ≤ p.off + 1
  bol : p.bol ≤ p.off
def SePost (w : World) (s : Nat) (a : Option Addr) (n c : Nat) (T : Nat → Int) (R : Bool × Plc) (e : Ending) (w' : World) : Prop := e = .returned (.bool R.1) ∧ SC w' s a n c T R.2.off R.2.line R.2.bol ∧ PlOk n R.2 ∧ Ex (fun k => k = s) w w'
set_option linter.unusedSimpArgs false in
set_option maxRecDepth 100000 in
set_option maxHeartbeats 8000000 in
/-- cnf.scanner.seek -/
theorem seek_any (w : World) (s n c : Nat) (a : Option Addr) (T : Nat → Int) (p : Plc) (h : SC w s a n c T p.off p.line p.bol) (hn : n ≤ 4611686018427387904) (hp : PlOk n p) :
    Calls Tryz.prog 116 #[.pointer (some ⟨s, 0, none⟩)] w (SePost w s a n c T (seekF T n p)) := by
  have HS := hide h
  have HP := hide hp
  clear h hp
  go_enter Tryz.func116, Tryz.ntmps116
  go_wp2
  go_loopw [3] (fun _ wr => ∃ q : Plc, SC wr s a n c T q.off q.line q.bol ∧ PlOk n q ∧ Hid (seekF T n p = seekF T n q) ∧ Ex (fun k => k = s) w wr) (fun _ wr => offLeft s n wr)
  case atStart => exact ⟨p, HS.out, HP.out, hide rfl, Ex.refl _ _⟩
  case round =>
    clear HS HP
    obtain ⟨⟨i, l, bo⟩, hs, hq, HE, hex⟩ := hrel
    dsimp only at hs
    have HS := hide hs
    have HX := hide hex
    have HQ := hide hq
    have hin : i ≤ n := hq.off
    have hll : 1 ≤ l ∧ l ≤ i + 1 := hq.line
    have hbo : bo ≤ i := hq.bol
    have HOL := hide (offLeft_at (n := n) hs.c1)
    have c0 := hs.c0
    have c1 := hs.c1
    clear hs hex hq
    by_cases hlt : i < n
    · have hlti : (i : Int) < (n : Int) := by omega
      have hltb : decide ((i : Int) < (n : Int)) = true := by simpa using hlt
      have hi0 : decide ((i : Int) < 0) = false := by simp
      obtain ⟨g, o, ea, cb, hb⟩ := HS.out.bt i hlt
      subst ea
      have HST := hide (seekF_step (T := T) (n := n) (p := ⟨i, l, bo⟩) hlt)
      dsimp only at HST
      go_upto_region 1 with fail
      go_quiet (fail)
      rename_i nq
      replace HS := hide (HS.out.below (belN _ nq))
      replace HX := hide (HX.out.drewN nq)
      clear c0 c1 cb
      generalize World.drewN _ nq = w2 at *
      have c0 := HS.out.c0
      have c1 := HS.out.c1
      obtain ⟨g', o', ea, cb, -⟩ := HS.out.bt i hlt
      cases ea
      go_upto_region 2 with fail
      go_quiet (fail)
      rename_i nq
      replace HS := hide (HS.out.below (belN _ nq))
      replace HX := hide (HX.out.drewN nq)
      clear c0 c1 cb
      generalize World.drewN _ nq = w3 at *
      have c1 := HS.out.c1
      have f1 := HS.out.f
      have hwi : IntKind.i64.wrap ((i : Int) + 1) = (i : Int) + 1 := by rw [IntKind.wrap_i64]; omega
      have hwl : IntKind.i64.wrap (l + 1) = l + 1 := by rw [IntKind.wrap_i64]; omega
      by_cases h10 : T i = 10
      · have h10b : (T i == 10) = true := by simpa using h10
        have HE2 := hide (show seekF T n p = seekF T n ⟨i + 1, l + 1, i + 1⟩ by rw [HE.out, HST.out, if_pos h10])
        clear h10 HST HE
        have HS2 := hide (HS.out.setOffI (i + 1) (u := (i : Int) + 1) (by omega))
        replace HX := hide (HX.out.trans HS2.out.2)
        clear HS
        go_upto_region 5 with fail
        generalize World.setCell _ ⟨s, 1, none⟩ (.int .i64 ((i : Int) + 1)) = w4 at *
        clear c1 f1
        have c2 := HS2.out.1.c2
        have f2 := HS2.out.1.f
        have HS3 := hide (HS2.out.1.setLine (l + 1))
        replace HX := hide (HX.out.trans HS3.out.2)
        clear HS2
        go_upto_region 6 with fail
        generalize World.setCell _ ⟨s, 2, none⟩ (.int .i64 (l + 1)) = w5 at *
        clear c2 f2
        have c1 := HS3.out.1.c1
        have c3 := HS3.out.1.c3
        have f3 := HS3.out.1.f
        have HS4 := hide (HS3.out.1.setBol (i + 1))
        have HX4 := hide (HX.out.trans HS4.out.2)
        have HO2 := hide (offLeft_at (n := n) HS4.out.1.c1)
        clear HS3 HX
        go_wp2
        go_roundw
        case rel => exact ⟨⟨i + 1, l + 1, i + 1⟩, HS4.out.1, ⟨by show i + 1 ≤ n; omega, by show 1 ≤ l + 1 ∧ l + 1 ≤ ((i + 1 : Nat) : Int) + 1; omega, Nat.le_refl _⟩, HE2, HX4.out⟩
        case measure => rw [HOL.out]; have := HO2.out; simp only [Int.natCast_add, Int.cast_ofNat_Int] at this; (first | (rw [this]; omega) | (simp at this; omega))
      · have h10b : (T i == 10) = false := by simpa using h10
        go_wp2_with fail
        refine (isBlank_any _ (T i)).mono ?_
        rintro e w' ⟨rfl, rfl⟩
        cases hbl : blankP (T i)
        · rw [if_neg h10, if_neg (by rw [hbl]; decide)] at HST
          by_cases hc : T i = 99
          · have hcb : (T i == 99) = true := by simpa using hc
            have c3 := HS.out.c3
            by_cases hbb : i = bo
            · have hbq : ((i : Int) == (bo : Int)) = true := by simp; omega
              have HE2 := hide (show seekF T n p = seekF T n ⟨eolE T n (n - i) i, l, bo⟩ by rw [HE.out, HST.out, if_pos ⟨hc, hbb⟩])
              have HGT := hide (eolE_gt T hlt h10)
              have HRG := hide (eolE_rng T n (n - i) i hin)
              clear hc hbb hbl h10 HST HE
              go_upto_region 9 with fail
              go_quiet (fail)
              rename_i nq
              replace HS := hide (HS.out.below (belN _ nq))
              replace HX := hide (HX.out.drewN nq)
              clear c1 c3 f1
              generalize World.drewN _ nq = w4 at *
              go_wp2_with fail
              refine (skipLine_any _ s n c i bo _ T l HS.out hn hin).mono ?_
              rintro e w5 ⟨rfl, hs, hx⟩
              have HO2 := hide (offLeft_at (n := n) hs.c1)
              have HS5 := hide hs
              have HX5 := hide (HX.out.trans hx)
              clear hs hx HS HX
              go_wp2
              go_roundw
              case rel => exact ⟨⟨eolE T n (n - i) i, l, bo⟩, HS5.out, ⟨HRG.out.2, ⟨hll.1, by show l ≤ ((eolE T n (n - i) i : Nat) : Int) + 1; have := HGT.out; omega⟩, by show bo ≤ eolE T n (n - i) i; have := HGT.out; omega⟩, HE2, HX5.out⟩
              case measure => rw [HOL.out, HO2.out]; have := HGT.out; omega
            · have hbq : ((i : Int) == (bo : Int)) = false := by simp; omega
              have HE2 := hide (show seekF T n p = (true, ⟨i, l, bo⟩) by rw [HE.out, HST.out, if_neg (fun z => hbb z.2)])
              clear hc hbb hbl h10 HST HE
              go_upto_region 9 with fail
              go_quiet (fail)
              rename_i nq
              have HPO := hide (show SePost w s (some ⟨g, o, none⟩) n c T (seekF T n p) (.returned (.bool true)) (World.drewN _ nq) from by rw [HE2.out]; exact ⟨rfl, HS.out.below (belN _ nq), HQ.out, HX.out.drewN nq⟩)
              go_wp2
              go_ret
              exact HPO.out
          · have hcb : (T i == 99) = false := by simpa using hc
            have HE2 := hide (show seekF T n p = (true, ⟨i, l, bo⟩) by rw [HE.out, HST.out, if_neg (fun z => hc z.1)])
            clear hc hbl h10 HST HE
            go_upto_region 9 with fail
            go_quiet (fail)
            rename_i nq
            have HPO := hide (show SePost w s (some ⟨g, o, none⟩) n c T (seekF T n p) (.returned (.bool true)) (World.drewN _ nq) from by rw [HE2.out]; exact ⟨rfl, HS.out.below (belN _ nq), HQ.out, HX.out.drewN nq⟩)
            go_wp2
            go_ret
            exact HPO.out
        · have HE2 := hide (show seekF T n p = seekF T n ⟨i + 1, l, bo⟩ by rw [HE.out, HST.out, if_neg h10, if_pos hbl])
          clear hbl h10 HST HE
          have HS2 := hide (HS.out.setOffI (i + 1) (u := (i : Int) + 1) (by omega))
          have HX2 := hide (HX.out.trans HS2.out.2)
          have HO2 := hide (offLeft_at (n := n) HS2.out.1.c1)
          clear HS HX
          go_wp2
          go_roundw
          case rel => exact ⟨⟨i + 1, l, bo⟩, HS2.out.1, ⟨by show i + 1 ≤ n; omega, by show 1 ≤ l ∧ l ≤ ((i + 1 : Nat) : Int) + 1; omega, by show bo ≤ i + 1; omega⟩, HE2, HX2.out⟩
          case measure => rw [HOL.out, HO2.out]; omega
    · obtain rfl : i = n := by omega
      have hltb : decide ((i : Int) < (i : Int)) = false := by simp
      have HE2 := hide (show seekF T i p = (false, ⟨i, l, bo⟩) by rw [HE.out, seekF_end (by show ¬ i < i; omega)])
      clear HE
      go_upto_region 1 with fail
      go_quiet (fail)
      rename_i nq
      have HPO := hide (show SePost w s a i c T (seekF T i p) (.returned (.bool false)) (World.drewN _ nq) from by rw [HE2.out]; exact ⟨rfl, HS.out.below (belN _ nq), HQ.out, HX.out.drewN nq⟩)
      go_wp2
      go_ret
      exact HPO.out
end Go.Proofs.Qxb6500773aGreat
