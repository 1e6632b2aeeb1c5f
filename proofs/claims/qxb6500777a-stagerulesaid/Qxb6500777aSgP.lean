import Derived.Test.Qxb6500777aCsP
import Derived.Test.Qxb6500777aFsd
namespace Go.Proofs.Qxb6500777a
open Go.RowKit

/-! ### Plain of StageRule -/
def runP (was run g : Int) : Int := if was < 3 ∧ was + 1 ≤ g then run + 1 else 0
def risP (was run g : Int) : Bool := decide (was < 3 ∧ runP was run g = was + 2)
/-- The streak is empty at the top. -/
def St3 (T : Tbl) : Prop := ∀ k, k < 64 → (T.sl k).used = true → (T.sl k).tr.st = 3 → (T.sl k).sk = 0
theorem credit_st {s : Slt} {g : Int} (h0 : 0 ≤ s.tr.st) (hs : s.tr.st ≤ 3) (h3 : s.tr.st = 3 → s.sk = 0) : (creditP s g).tr.st = s.tr.st + (if risP s.tr.st s.sk g then 1 else 0) ∧ (creditP s g).sk = if risP s.tr.st s.sk g then 0 else runP s.tr.st s.sk g := by
  unfold creditP risP
  by_cases e3 : s.tr.st = 3
  · rw [if_pos e3]
    have hr : runP s.tr.st s.sk g = 0 := by unfold runP; rw [if_neg (by omega)]
    rw [hr, if_neg (by simp; omega), if_neg (by simp; omega)]
    exact ⟨by omega, h3 e3⟩
  · rw [if_neg e3]
    by_cases e2 : g < s.tr.st + 1
    · rw [if_pos e2]
      have hr : runP s.tr.st s.sk g = 0 := by unfold runP; rw [if_neg (by omega)]
      rw [hr]
      rw [if_neg (by simp; omega), if_neg (by simp; omega)]
      exact ⟨by dsimp only; omega, rfl⟩
    · rw [if_neg e2]
      have hr : runP s.tr.st s.sk g = s.sk + 1 := by unfold runP; rw [if_pos (by omega)]
      rw [hr]
      by_cases e1 : s.sk + 1 = s.tr.st + 2
      · rw [if_pos e1, if_pos (by simp; omega), if_pos (by simp; omega)]
        exact ⟨rfl, rfl⟩
      · rw [if_neg e1, if_neg (by simp; omega), if_neg (by simp; omega)]
        exact ⟨by dsimp only; omega, rfl⟩
/-- Stage and streak of a track after a tick. -/
theorem stage_ok {best : Nat → Int} {W : Nat → Tgt} {X Y : Nat → Int} {T T3 T' : Tbl} (hT : TInv T) (h3 : St3 T) (h : TickP best W X Y T T3 T') {k : Nat} (hk : k < 64) (hu : (T'.sl k).used = true) :
    ∃ was run, (((T.sl k).used = true ∧ (T.sl k).tr.num = (T'.sl k).tr.num ∧ was = (T.sl k).tr.st ∧ run = (T.sl k).sk) ∨ (T.next ≤ (T'.sl k).tr.num ∧ was = 0 ∧ run = 0)) ∧
      (T'.sl k).tr.st = was + (if risP was run (best (T'.sl k).tg.toNat) then 1 else 0) ∧ (T'.sl k).sk = (if risP was run (best (T'.sl k).tg.toNat) then 0 else runP was run (best (T'.sl k).tg.toNat)) := by
  by_cases hn : (T'.sl k).tr.num < T3.next
  · obtain ⟨u3, e3⟩ := h.ev.old k hk hu hn
    obtain ⟨uk, j, hj, uj, aj, e⟩ := h.src k hk u3
    rw [alike_iff] at aj
    have htg : (numd (obsS best W X Y (T.sl j)) (T.sl k).tr.num).tg = (T.sl j).tg := (obs_same best W X Y (T.sl j)).2.1
    refine ⟨(T.sl k).tr.st, (T.sl k).sk, .inl ⟨uk, by rw [← e3, e]; rfl, rfl, rfl⟩, ?_⟩
    rw [← e3, e, htg, aj.2.2.2.2.1, aj.2.2.2.2.2.2]
    have hst := (hT.ok j hj).tr.st
    show (obsS best W X Y (T.sl j)).tr.st = _ ∧ (obsS best W X Y (T.sl j)).sk = _
    by_cases hp : 0 < best (T.sl j).tg.toNat
    · have ho : obsS best W X Y (T.sl j) = creditP { T.sl j with tr := { lookP (T.sl j).tr (W (T.sl j).tg.toNat) (best (T.sl j).tg.toNat) with ag := 0 } } (best (T.sl j).tg.toNat) := by
        unfold obsS
        rw [if_pos uj, if_pos hp]
        rfl
      rw [ho]
      exact credit_st (s := { T.sl j with tr := { lookP (T.sl j).tr (W (T.sl j).tg.toNat) (best (T.sl j).tg.toNat) with ag := 0 } }) hst.1 hst.2 (h3 j hj uj)
    · have ho : obsS best W X Y (T.sl j) = coastP X Y (T.sl j) := by
        unfold obsS
        rw [if_pos uj, if_neg hp]
      have hr : runP (T.sl j).tr.st (T.sl j).sk (best (T.sl j).tg.toNat) = 0 := by unfold runP; rw [if_neg (by omega)]
      have hri : risP (T.sl j).tr.st (T.sl j).sk (best (T.sl j).tg.toNat) = false := by unfold risP; rw [hr]; simp; omega
      rw [ho, hri, hr]
      exact ⟨by show (T.sl j).tr.st = _; simp, rfl⟩
  · obtain ⟨S, c, hc, e⟩ := new_src h.inv3 h.adm k hk hu (by omega)
    obtain ⟨t, ht, rfl, hbt, _⟩ := fr_mem 112 c hc
    refine ⟨0, 0, .inr ⟨by rw [← h.nx]; omega, rfl, rfl⟩, ?_⟩
    rw [e]
    have htg : (newS S (newC best W t)).tg = t := (credit_same _ _).2.1
    rw [htg, Int.toNat_natCast]
    exact credit_st (s := ⟨true, (newC best W t).tg, 0, { (newC best W t).seen with num := S.next }⟩) (g := best t) (Int.le_refl 0) (by show (0 : Int) ≤ 3; omega) (fun z => rfl)
theorem St3.tick {best : Nat → Int} {W : Nat → Tgt} {X Y : Nat → Int} {T T3 T' : Tbl} (hT : TInv T) (h3 : St3 T) (h : TickP best W X Y T T3 T') : St3 T' := fun k hk hu h3' => by
  obtain ⟨was, run, hw, e1, e2⟩ := stage_ok hT h3 h hk hu
  by_cases hr : risP was run (best (T'.sl k).tg.toNat) = true
  · rw [e2, if_pos hr]
  · rw [if_neg hr] at e1 e2
    rw [e2]
    unfold runP
    rw [if_neg (by omega)]
/-- trackslaw.gradeOf -/
theorem gradeOf_any (w : World) (b tm : Nat) (htm : tm < 4) (T : Tbl) (h : TA w b (1 + tm * 754) T) (hT : TInv T) (a : Option Addr) (n c : Nat) (D : List Det) (hD : DA w a D) (hn : n = D.length) (hl : n ≤ 1000000) {k : Nat} (hk : k < 64) (hu : (T.sl k).used = true) :
    Calls Try.prog 28 #[.pointer (some ⟨b, 0, none⟩), .slice a n c, .int .i64 tm, .int .i64 (T.sl k).tr.num] w fun e w' => e = .returned (.int .i64 (fuseP D tm (T.sl k).tg.toNat)) ∧ w' = w := by
  have HT := hide h
  have HI := hide hT
  have HD := hide hD
  have HN := hide hn
  have HU := hide hu
  have htg := (hT.ok k hk).tg
  obtain ⟨x, hx⟩ : ∃ x : Nat, (T.sl k).tg = x := ⟨(T.sl k).tg.toNat, by omega⟩
  have hx112 : x < 112 := by omega
  have HX := hide hx
  clear h hT hD hn hu htg
  rw [hx, Int.toNat_natCast]
  clear hx
  go_enter Try.func28, Try.ntmps28
  go_wp2_with fail
  refine (resolve_any _ b tm htm T HT.out (T.sl k).tr.num).mono ?_
  rintro e w2 ⟨tt, hh, rfl, hres, rfl⟩
  obtain ⟨e1, e2⟩ := res_of HI.out hk HU.out hres
  rw [HX.out] at e1
  subst e1 e2
  clear hres
  go_wp2_with fail
  refine (fused_any _ a n c D HD.out HN.out hl tm x hx112).mono ?_
  rintro e w3 ⟨rfl, rfl⟩
  go_wp2
  go_ret
  exact ⟨rfl, rfl⟩
end Go.Proofs.Qxb6500777a
