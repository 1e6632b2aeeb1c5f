import Derived.Test.Qxb6500778aN9
import Derived.Test.Qxb6500778aNA2
import Derived.Test.Qxb6500778aNC
namespace Go.Proofs.Qxb6500778a
open Go.RowKit

/-! ### Network.step, plain -/
def GoodC (c : Chg) : Prop :=
  (0 ≤ c.dv ∧ c.dv ≤ 15) ∧
  ((c.kd = 0 ∧ GoodP c.pr c.ln ∧ (0 ≤ c.hp ∧ c.hp ≤ 15) ∧ c.ix = 0 ∧ c.cl = 0 ∧ c.pm = false ∧ c.up = false) ∨
   (c.kd = 1 ∧ GoodP c.pr c.ln ∧ c.hp = 0 ∧ c.ix = 0 ∧ c.cl = 0 ∧ c.pm = false ∧ c.up = false) ∨
   (c.kd = 2 ∧ GoodP c.pr c.ln ∧ c.hp = 0 ∧ (0 ≤ c.ix ∧ c.ix ≤ 63) ∧ (0 ≤ c.cl ∧ c.cl ≤ 16) ∧ c.up = false) ∨
   (c.kd = 3 ∧ c.pr = 0 ∧ c.ln = 0 ∧ c.hp = 0 ∧ (0 ≤ c.ix ∧ c.ix ≤ 63) ∧ c.cl = 0 ∧ c.pm = false ∧ c.up = false) ∨
   (c.kd = 4 ∧ c.pr = 0 ∧ c.ln = 0 ∧ (c.dv < c.hp ∧ c.hp ≤ 15) ∧ c.ix = 0 ∧ c.cl = 0 ∧ c.pm = false) ∨
   (c.kd = 5 ∧ c.pr = 0 ∧ c.ln = 0 ∧ c.hp = 0 ∧ c.ix = 0 ∧ c.cl = 0 ∧ c.pm = false))
structure DvOk (v : Dv) : Prop where
  srt : SortedR v.rt
  cap : v.rt.length + v.ac.length ≤ 64
  gr : ∀ r ∈ v.rt, GoodP r.pr r.ln ∧ 0 ≤ r.hp ∧ r.hp ≤ 15
  ga : ∀ r ∈ v.ac, GoodP r.pr r.ln ∧ 0 ≤ r.cl ∧ r.cl ≤ 16
def NetOk (N : Nat → Dv) : Prop := ∀ d, d < 16 → DvOk (N d)
def hopAt (L : List Rt) (i : Nat) : Int := match L[i]? with
  | some r => r.hp
  | none => 0
def rlAt (L : List Rl) (i : Nat) : Rl := match L[i]? with
  | some r => r
  | none => ⟨false, 0, 0, 0⟩
def stepP (N : Nat → Dv) (c : Chg) : (Nat → Dv) × Chg × Int :=
  let d := c.dv.toNat
  let v := N d
  let i := lowR v.rt c.pr c.ln
  let j := c.ix.toNat
  let h := c.hp.toNat
  let u0 : Chg := ⟨0, c.dv, 0, 0, 0, 0, 0, false, false⟩
  if c.kd = 0 then
    if hasR v.rt c.pr c.ln = true then (N, u0, 6) else if v.rt.length + v.ac.length < 64 then
      (upd N d { v with rt := v.rt.take i ++ ⟨c.pr, c.ln, c.hp⟩ :: v.rt.drop i }, ⟨1, c.dv, 0, c.pr, c.ln, 0, 0, false, false⟩, 0) else (N, u0, 8)
  else if c.kd = 1 then
    if hasR v.rt c.pr c.ln = true then (upd N d { v with rt := v.rt.take i ++ v.rt.drop (i + 1) }, ⟨0, c.dv, hopAt v.rt i, c.pr, c.ln, 0, 0, false, false⟩, 0) else (N, u0, 7)
  else if c.kd = 2 then
    if j ≤ v.ac.length then (if v.rt.length + v.ac.length < 64 then
      (upd N d { v with ac := v.ac.take j ++ ⟨c.pm, c.pr, c.ln, c.cl⟩ :: v.ac.drop j }, ⟨3, c.dv, 0, 0, 0, c.ix, 0, false, false⟩, 0) else (N, u0, 8)) else (N, u0, 7)
  else if c.kd = 3 then
    if j < v.ac.length then (upd N d { v with ac := v.ac.take j ++ v.ac.drop (j + 1) }, ⟨2, c.dv, 0, (rlAt v.ac j).pr, (rlAt v.ac j).ln, c.ix, (rlAt v.ac j).cl, (rlAt v.ac j).pm, false⟩, 0) else (N, u0, 7)
  else if c.kd = 4 then
    let N1 := upd N d { v with lk := stB v.lk h c.up }
    (upd N1 h { N1 h with lk := stB (N1 h).lk d c.up }, ⟨4, c.dv, c.hp, 0, 0, 0, 0, false, lkB v.lk h⟩, 0)
  else (upd N d { v with up := c.up }, ⟨5, c.dv, 0, 0, 0, 0, 0, false, v.up⟩, 0)
/-- Network.step -/
theorem step_any (w : World) (q o b : Nat) (N : Nat → Dv) (vr va : Nat → Value) (c : Chg) (hc : CO w q o c) (hn : NA w b N vr va) (hq : ¬ Foot b vr va q) (hg : GoodC c) (hok : NetOk N) :
    Calls Try.prog 61 #[.pointer (some ⟨b, 0, none⟩), .pointer (some ⟨q, o, none⟩)] w (NPost w b vr va (.tuple #[chgV (stepP N c).2.1, .int .i64 (stepP N c).2.2]) (stepP N c).1) := by
  obtain ⟨kd, dv, hp, pr, ln, ix, cl, pm, up⟩ := c
  obtain ⟨⟨hd0, hd1⟩, hk⟩ := hg
  obtain ⟨d, rfl⟩ : ∃ d : Nat, dv = d := ⟨dv.toNat, by simp only [] at hd0; omega⟩
  simp only [] at hd0 hd1 hk
  have hd : d < 16 := by omega
  have ho := hok d hd
  unfold stepP
  simp only [Int.toNat_natCast]
  rcases hk with ⟨rfl, _⟩ | ⟨rfl, _⟩ | ⟨rfl, _, _, hix, _⟩ | ⟨rfl, _, _, _, hix, _⟩ | ⟨rfl, _, _, hhp, _⟩ | ⟨rfl, _⟩
  · rw [if_pos rfl]
    split
    · rename_i hf
      exact step_add_there w q o b d N vr va hp pr ln ix cl pm up hc hn hq hd ho.srt ho.cap hf
    · rename_i hf
      have hf : hasR (N d).rt pr ln = false := by simpa using hf
      split
      · rename_i hr
        exact step_add w q o b d N vr va hp pr ln ix cl pm up hc hn hq hd ho.srt hf hr
      · rename_i hr
        have := ho.cap
        exact step_add_full w q o b d N vr va hp pr ln ix cl pm up hc hn hq hd ho.srt hf (by omega)
  · rw [if_neg (by decide), if_pos rfl]
    split
    · rename_i hf
      obtain ⟨r, hr, h1, h2⟩ := has_is hf
      obtain ⟨rp, rl, rh⟩ := r
      simp only [] at h1 h2
      subst h1 h2
      have hh : hopAt (N d).rt (lowR (N d).rt rp rl) = rh := by unfold hopAt; rw [hr]
      rw [hh]
      exact step_del w q o b d N vr va hp rp rl ix cl pm up hc hn hq hd ho.srt ho.cap hf rh hr
    · rename_i hf
      exact step_del_miss w q o b d N vr va hp pr ln ix cl pm up hc hn hq hd ho.srt ho.cap (by simpa using hf)
  · rw [if_neg (by decide), if_neg (by decide), if_pos rfl]
    obtain ⟨i, rfl⟩ : ∃ i : Nat, ix = i := ⟨ix.toNat, by omega⟩
    rw [Int.toNat_natCast]
    split
    · rename_i hj
      split
      · rename_i hr
        exact step_ins w q o b d N vr va hp pr ln i cl pm up hc hn hq hd i rfl hj hr
      · rename_i hr
        have := ho.cap
        exact step_ins_full w q o b d N vr va hp pr ln i cl pm up hc hn hq hd i rfl hj (by omega)
    · rename_i hj
      exact step_ins_miss w q o b d N vr va hp pr ln i cl pm up hc hn hq hd i rfl (by omega)
  · rw [if_neg (by decide), if_neg (by decide), if_neg (by decide), if_pos rfl]
    obtain ⟨i, rfl⟩ : ∃ i : Nat, ix = i := ⟨ix.toNat, by omega⟩
    rw [Int.toNat_natCast]
    split
    · rename_i hj
      obtain ⟨r, hr⟩ : ∃ r, (N d).ac[i]? = some r := ⟨_, List.getElem?_eq_getElem hj⟩
      have hh : rlAt (N d).ac i = r := by unfold rlAt; rw [hr]
      rw [hh]
      obtain ⟨rm, rp, rl, rc⟩ := r
      exact step_rem w q o b d N vr va hp pr ln i cl pm up hc hn hq hd i rfl ho.cap rm rp rl rc hr
    · rename_i hj
      exact step_rem_miss w q o b d N vr va hp pr ln i cl pm up hc hn hq hd i rfl (by omega)
  · rw [if_neg (by decide), if_neg (by decide), if_neg (by decide), if_neg (by decide), if_pos rfl]
    obtain ⟨h, rfl⟩ : ∃ h : Nat, hp = h := ⟨hp.toNat, by omega⟩
    rw [Int.toNat_natCast]
    exact step_link w q o b d N vr va h pr ln ix cl pm up hc hn hq hd h (by omega) rfl
  · rw [if_neg (by decide), if_neg (by decide), if_neg (by decide), if_neg (by decide), if_neg (by decide)]
    exact step_if w q o b d N vr va hp pr ln ix cl pm up hc hn hq hd
end Go.Proofs.Qxb6500778a
