import Derived.Test.Qxb6500777aMem
namespace Go.Proofs.Qxb6500777a
open Go.RowKit

/-! ### The plain data -/
/-- A track: what is shown. -/
structure Trk where
  num : Int
  x : Int
  y : Int
  co : Int
  sp : Int
  st : Int
  ag : Int
deriving DecidableEq
/-- A slot. -/
structure Slt where
  used : Bool
  tg : Int
  sk : Int
  tr : Trk
deriving DecidableEq
/-- The truth of a target. -/
structure Tgt where
  x : Int
  y : Int
  co : Int
  sp : Int
deriving DecidableEq
def Trk.vals (t : Trk) : List Value := [.int .i64 t.num, .int .i64 t.x, .int .i64 t.y, .int .i64 t.co, .int .i64 t.sp, .int .i64 t.st, .int .i64 t.ag]
def Slt.vals (s : Slt) : List Value := [.bool s.used, .int .i64 s.tg, .int .i64 s.sk, .int .i64 s.tr.num, .int .i64 s.tr.x, .int .i64 s.tr.y, .int .i64 s.tr.co, .int .i64 s.tr.sp, .int .i64 s.tr.st, .int .i64 s.tr.ag]
def Tgt.vals (t : Tgt) : List Value := [.int .i64 t.x, .int .i64 t.y, .int .i64 t.co, .int .i64 t.sp]
def trk0 : Trk := ⟨0, 0, 0, 0, 0, 0, 0⟩
def slt0 : Slt := ⟨false, 0, 0, trk0⟩
def qzP (v g : Int) : Int := v / g * g
def pgP (g : Int) : Int := if g = 3 then 64 else if g = 2 then 512 else 4096
def cgP (g : Int) : Int := if g = 3 then 32 else if g = 2 then 128 else 512
def sgP (g : Int) : Int := if g = 3 then 4 else if g = 2 then 32 else 256
/-- What a detection shows, laid into a track. -/
def lookP (t : Trk) (W : Tgt) (g : Int) : Trk := { t with x := qzP W.x (pgP g), y := qzP W.y (pgP g), co := qzP W.co (cgP g), sp := qzP W.sp (sgP g) }
def creditP (s : Slt) (g : Int) : Slt :=
  if s.tr.st = 3 then s
  else if g < s.tr.st + 1 then { s with sk := 0 }
  else if s.sk + 1 = s.tr.st + 2 then { s with sk := 0, tr := { s.tr with st := s.tr.st + 1 } }
  else { s with sk := s.sk + 1 }
def refreshP (s : Slt) (W : Tgt) (g : Int) : Slt := creditP { s with tr := { lookP s.tr W g with ag := 0 } } g
/-- A coordinate, brought onto the map. -/
def mapP (v : Int) : Int := if 1048576 < v then 1048576 else if v < -1048576 then -1048576 else v
def coastP (X Y : Nat → Int) (s : Slt) : Slt :=
  { s with sk := 0, tr := { s.tr with ag := s.tr.ag + 1, x := mapP (s.tr.x + s.tr.sp * X s.tr.co.toNat / 1073741824), y := mapP (s.tr.y + s.tr.sp * Y s.tr.co.toNat / 1073741824) } }
def alikeP (a b : Slt) : Bool := decide ({ a.tr with num := b.tr.num } = b.tr) && decide (a.sk = b.sk)
/-- By what is seen. -/
def beforeP (a b : Trk) : Bool :=
  if a.x ≠ b.x then decide (a.x < b.x) else if a.y ≠ b.y then decide (a.y < b.y) else if a.co ≠ b.co then decide (a.co < b.co) else decide (a.sp < b.sp)
def aheadP (a b : Slt) : Bool :=
  if a.tr.ag ≠ b.tr.ag then decide (a.tr.ag < b.tr.ag)
  else if beforeP a.tr b.tr = true ∨ beforeP b.tr a.tr = true then beforeP a.tr b.tr
  else if a.tr.st ≠ b.tr.st then decide (a.tr.st < b.tr.st)
  else decide (a.sk < b.sk)
def worseP (a b : Trk) : Bool :=
  if a.ag ≠ b.ag then decide (b.ag < a.ag) else if a.st ≠ b.st then decide (a.st < b.st) else decide (a.num < b.num)
/-! ### What holds of it -/
structure TrkOk (t : Trk) : Prop where
  num : 0 ≤ t.num ∧ t.num ≤ 1000000000
  x : -1048576 ≤ t.x ∧ t.x ≤ 1048576
  y : -1048576 ≤ t.y ∧ t.y ≤ 1048576
  co : 0 ≤ t.co ∧ t.co < 4096
  sp : 0 ≤ t.sp ∧ t.sp ≤ 2000
  st : 0 ≤ t.st ∧ t.st ≤ 3
  ag : 0 ≤ t.ag ∧ t.ag ≤ 30
structure SltOk (s : Slt) : Prop where
  tg : 0 ≤ s.tg ∧ s.tg < 112
  sk : 0 ≤ s.sk ∧ s.sk ≤ s.tr.st + 1
  tr : TrkOk s.tr
structure TgtOk (t : Tgt) : Prop where
  x : -1048576 ≤ t.x ∧ t.x ≤ 1048576
  y : -1048576 ≤ t.y ∧ t.y ≤ 1048576
  co : 0 ≤ t.co ∧ t.co < 4096
  sp : 0 ≤ t.sp ∧ t.sp ≤ 2000
theorem qz_rng {v g lo hi : Int} (hg : 0 < g) (h0 : lo ≤ v) (h1 : v ≤ hi) (hd : lo % g = 0) : lo ≤ qzP v g ∧ qzP v g ≤ hi := by
  unfold qzP
  have e := Int.mul_ediv_add_emod v g
  have r0 := Int.emod_nonneg v (by omega : g ≠ 0)
  have r1 := Int.emod_lt_of_pos v hg
  have el := Int.mul_ediv_add_emod lo g
  rw [hd, Int.add_zero] at el
  have hm : lo / g ≤ v / g := Int.ediv_le_ediv hg h0
  have hm2 : g * (lo / g) ≤ g * (v / g) := Int.mul_le_mul_of_nonneg_left hm (by omega)
  rw [Int.mul_comm (v / g) g]
  omega
theorem co_rng {v g : Int} (hg : 0 < g) (h : 0 ≤ v ∧ v < 4096) : 0 ≤ qzP v g ∧ qzP v g < 4096 := by
  have := qz_rng hg h.1 (Int.le_refl v) (by simp)
  omega
theorem map_rng (v : Int) : -1048576 ≤ mapP v ∧ mapP v ≤ 1048576 := by unfold mapP; split <;> (try split) <;> omega
theorem pg_cases (g : Int) : (pgP g = 64 ∧ cgP g = 32 ∧ sgP g = 4) ∨ (pgP g = 512 ∧ cgP g = 128 ∧ sgP g = 32) ∨ (pgP g = 4096 ∧ cgP g = 512 ∧ sgP g = 256) := by
  unfold pgP cgP sgP
  by_cases h3 : g = 3
  · simp [h3]
  · by_cases h2 : g = 2 <;> simp [h3, h2]
theorem look_ok {t : Trk} {W : Tgt} {g : Int} (h : TgtOk W) (hn : 0 ≤ t.num ∧ t.num ≤ 1000000000) (hs : 0 ≤ t.st ∧ t.st ≤ 3) (ha : 0 ≤ t.ag ∧ t.ag ≤ 30) : TrkOk (lookP t W g) := by
  unfold lookP
  rcases pg_cases g with ⟨e1, e2, e3⟩ | ⟨e1, e2, e3⟩ | ⟨e1, e2, e3⟩ <;> rw [e1, e2, e3]
  all_goals
    exact ⟨hn, qz_rng (by omega) h.x.1 h.x.2 (by decide), qz_rng (by omega) h.y.1 h.y.2 (by decide), co_rng (by omega) h.co, qz_rng (by omega) h.sp.1 h.sp.2 (by decide), hs, ha⟩
theorem credit_ok {s : Slt} {g : Int} (h : SltOk s) : SltOk (creditP s g) := by
  have h1 := h.sk
  have h2 := h.tr.st
  unfold creditP
  split
  · exact h
  · split
    · exact ⟨h.tg, ⟨by dsimp only; omega, by dsimp only; omega⟩, h.tr⟩
    · split
      · exact ⟨h.tg, ⟨by dsimp only; omega, by dsimp only; omega⟩, ⟨h.tr.num, h.tr.x, h.tr.y, h.tr.co, h.tr.sp, ⟨by dsimp only; omega, by dsimp only; omega⟩, h.tr.ag⟩⟩
      · exact ⟨h.tg, ⟨by dsimp only; omega, by dsimp only; omega⟩, h.tr⟩
theorem refresh_ok {s : Slt} {W : Tgt} {g : Int} (h : SltOk s) (hW : TgtOk W) : SltOk (refreshP s W g) := by
  unfold refreshP
  apply credit_ok
  have := look_ok (t := s.tr) (g := g) hW h.tr.num h.tr.st h.tr.ag
  exact ⟨h.tg, h.sk, ⟨this.num, this.x, this.y, this.co, this.sp, this.st, by dsimp only; omega⟩⟩
theorem coast_ok {X Y : Nat → Int} {s : Slt} (h : SltOk s) (ha : s.tr.ag ≤ 29) : SltOk (coastP X Y s) := by
  have h2 := h.tr.st
  have h3 := h.tr.ag
  unfold coastP
  exact ⟨h.tg, ⟨by dsimp only; omega, by dsimp only; omega⟩, ⟨h.tr.num, map_rng _, map_rng _, h.tr.co, h.tr.sp, h.tr.st, ⟨by dsimp only; omega, by dsimp only; omega⟩⟩⟩
end Go.Proofs.Qxb6500777a
