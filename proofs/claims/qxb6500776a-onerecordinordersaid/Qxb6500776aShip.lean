import Derived.Test.Qxb6500776aLeaf
namespace Go.Proofs.Qxb6500776a
open Go.RowKit

/-- A ship. -/
structure Shp where
  id : Int
  team : Int
  x : Int
  y : Int
  depth : Int
  speed : Int
  mast : Int
  noise : Int
  afloat : Bool
  radar : Bool
  sonar : Bool
  ping : Bool
/-- What worldm keeps true of a ship. -/
structure ShpOk (s : Shp) : Prop where
  id : 0 ≤ s.id ∧ s.id < 48
  team : 0 ≤ s.team ∧ s.team < 4
  x : OnM s.x
  y : OnM s.y
  depth : 0 ≤ s.depth ∧ s.depth ≤ 400
  speed : 0 ≤ s.speed ∧ s.speed ≤ 40
  mast : 0 ≤ s.mast ∧ s.mast ≤ 64
  noise : 0 ≤ s.noise ∧ s.noise ≤ 160
def srcP (t : Shp) : Int := t.noise + 2 * t.speed
def ownP (o : Shp) : Int := 40 + o.speed
def layP (a b : Shp) : Int := if decide (a.depth < 100) != decide (b.depth < 100) then 15 else 0
def upP (o : Shp) : Bool := o.radar && o.depth == 0
def pinP (o : Shp) : Bool := o.sonar && o.ping
def findP (o : Shp) (d : Int) : Bool := pinP o && decide (d ≤ 1600000000)
def hearP (o t : Shp) (d : Int) : Bool := o.sonar && pinP t && decide (d ≤ 6400000000)
def rgP (d : Int) : Int := if d ≤ 268435456 then 3 else if d ≤ 1073741824 then 2 else 1
def pgP (e : Int) : Int := if 30 ≤ e then 2 else 1
def egP (d : Int) : Int := if 4 * d ≤ 1600000000 then 3 else 2
def liveP (o t : Shp) : Bool := o.afloat && t.afloat && o.team != t.team
def dstP (o t : Shp) : Int := dsq o.x o.y t.x t.y
theorem be1 (w : World) (o : Obj) : Below w.heap.size w (w.alloc o) := (Below.refl _ _).alloc (Nat.le_refl _) o
theorem be2 (w : World) (o p : Obj) : Below w.heap.size w ((w.alloc o).alloc p) := ((Below.refl _ _).alloc (Nat.le_refl _) o).alloc (by simp) p
theorem lec {a b c : World} (h : Below a.heap.size a b) (k : Below b.heap.size b c) : Below a.heap.size a c := h.trans (k.mono h.size)
theorem source_any (w : World) (t : Shp) (ht : ShpOk t) : Calls Try.prog 50 #[.agg #[.int .i64 t.id, .int .i64 t.team, .int .i64 t.x, .int .i64 t.y, .int .i64 t.depth, .int .i64 t.speed, .int .i64 t.mast, .int .i64 t.noise, .bool t.afloat, .bool t.radar, .bool t.sonar, .bool t.ping]] w fun e w' => e = .returned (.int .i64 (srcP t)) ∧ Below w.heap.size w w' := by
  have h1 := ht.speed
  have h2 := ht.noise
  clear ht
  go_enter Try.func50, Try.ntmps50
  go_wp2
  go_ret
  exact ⟨rfl, be1 _ _⟩
theorem own_any (w : World) (t : Shp) (ht : ShpOk t) : Calls Try.prog 73 #[.agg #[.int .i64 t.id, .int .i64 t.team, .int .i64 t.x, .int .i64 t.y, .int .i64 t.depth, .int .i64 t.speed, .int .i64 t.mast, .int .i64 t.noise, .bool t.afloat, .bool t.radar, .bool t.sonar, .bool t.ping]] w fun e w' => e = .returned (.int .i64 (ownP t)) ∧ Below w.heap.size w w' := by
  have h1 := ht.speed
  clear ht
  go_enter Try.func73, Try.ntmps73
  go_wp2
  go_ret
  exact ⟨rfl, be1 _ _⟩
theorem layer_any (w : World) (a b : Shp) : Calls Try.prog 74 #[.agg #[.int .i64 a.id, .int .i64 a.team, .int .i64 a.x, .int .i64 a.y, .int .i64 a.depth, .int .i64 a.speed, .int .i64 a.mast, .int .i64 a.noise, .bool a.afloat, .bool a.radar, .bool a.sonar, .bool a.ping], .agg #[.int .i64 b.id, .int .i64 b.team, .int .i64 b.x, .int .i64 b.y, .int .i64 b.depth, .int .i64 b.speed, .int .i64 b.mast, .int .i64 b.noise, .bool b.afloat, .bool b.radar, .bool b.sonar, .bool b.ping]] w fun e w' => e = .returned (.int .i64 (layP a b)) ∧ Below w.heap.size w w' := by
  by_cases h1 : a.depth < 100 <;> by_cases h2 : b.depth < 100
  all_goals
    go_enter Try.func74, Try.ntmps74
    go_wp2
    go_ret
    exact ⟨ret_int (by simp [layP] <;> omega), be2 _ _ _⟩
theorem up_any (w : World) (a : Shp) : Calls Try.prog 70 #[.agg #[.int .i64 a.id, .int .i64 a.team, .int .i64 a.x, .int .i64 a.y, .int .i64 a.depth, .int .i64 a.speed, .int .i64 a.mast, .int .i64 a.noise, .bool a.afloat, .bool a.radar, .bool a.sonar, .bool a.ping]] w fun e w' => e = .returned (.bool (upP a)) ∧ Below w.heap.size w w' := by
  cases h1 : a.radar
  all_goals
    go_enter Try.func70, Try.ntmps70
    go_wp2
    go_ret
    exact ⟨ret_bool (by simp [upP, h1]), be1 _ _⟩
theorem pings_any (w : World) (a : Shp) : Calls Try.prog 51 #[.agg #[.int .i64 a.id, .int .i64 a.team, .int .i64 a.x, .int .i64 a.y, .int .i64 a.depth, .int .i64 a.speed, .int .i64 a.mast, .int .i64 a.noise, .bool a.afloat, .bool a.radar, .bool a.sonar, .bool a.ping]] w fun e w' => e = .returned (.bool (pinP a)) ∧ Below w.heap.size w w' := by
  cases h1 : a.sonar
  all_goals
    go_enter Try.func51, Try.ntmps51
    go_wp2
    go_ret
    exact ⟨ret_bool (by simp [pinP, h1]), be1 _ _⟩
theorem rGrade_any (w : World) (d : Int) : Calls Try.prog 56 #[.int .i64 d] w fun e w' => e = .returned (.int .i64 (rgP d)) ∧ w' = w := by
  by_cases h1 : d ≤ 268435456
  · go_enter Try.func56, Try.ntmps56
    go_wp2
    go_ret
    exact ⟨ret_int (by rw [rgP, if_pos h1]), rfl⟩
  · by_cases h2 : d ≤ 1073741824
    · go_enter Try.func56, Try.ntmps56
      go_wp2
      go_ret
      exact ⟨ret_int (by rw [rgP, if_neg (by omega), if_pos h2]), rfl⟩
    · go_enter Try.func56, Try.ntmps56
      go_wp2
      go_ret
      exact ⟨ret_int (by rw [rgP, if_neg (by omega), if_neg (by omega)]), rfl⟩
theorem pGrade_any (w : World) (d : Int) : Calls Try.prog 59 #[.int .i64 d] w fun e w' => e = .returned (.int .i64 (pgP d)) ∧ w' = w := by
  by_cases h1 : 30 ≤ d
  · go_enter Try.func59, Try.ntmps59
    go_wp2
    go_ret
    exact ⟨ret_int (by rw [pgP, if_pos h1]), rfl⟩
  · go_enter Try.func59, Try.ntmps59
    go_wp2
    go_ret
    exact ⟨ret_int (by rw [pgP, if_neg (by omega)]), rfl⟩
theorem eGrade_any (w : World) (d : Int) (h0 : 0 ≤ d) (hd : d ≤ 8796093022208) : Calls Try.prog 62 #[.int .i64 d] w fun e w' => e = .returned (.int .i64 (egP d)) ∧ w' = w := by
  by_cases h1 : 4 * d ≤ 1600000000
  · go_enter Try.func62, Try.ntmps62
    go_wp2
    go_ret
    exact ⟨ret_int (by rw [egP, if_pos h1]), rfl⟩
  · go_enter Try.func62, Try.ntmps62
    go_wp2
    go_ret
    exact ⟨ret_int (by rw [egP, if_neg (by omega)]), rfl⟩
theorem finds_any (w : World) (a : Shp) (d : Int) : Calls Try.prog 61 #[.agg #[.int .i64 a.id, .int .i64 a.team, .int .i64 a.x, .int .i64 a.y, .int .i64 a.depth, .int .i64 a.speed, .int .i64 a.mast, .int .i64 a.noise, .bool a.afloat, .bool a.radar, .bool a.sonar, .bool a.ping], .int .i64 d] w fun e w' => e = .returned (.bool (findP a d)) ∧ Below w.heap.size w w' := by
  have hc := fun w => hide (pings_any w a)
  have hf : findP a d = (pinP a && decide (d ≤ 1600000000)) := rfl
  rw [hf]
  cases h1 : pinP a
  all_goals
    rw [h1] at hc
    go_enter Try.func61, Try.ntmps61
    go_wp2_with fail
    refine (hc _).out.mono ?_
    rintro e w1 ⟨rfl, b1⟩
    have B1 := hide (lec (be1 _ _) b1)
    clear b1
    go_wp2
    go_ret
    exact ⟨ret_bool (by simp), B1.out⟩
theorem live_any (w : World) (a b : Shp) : Calls Try.prog 20 #[.agg #[.int .i64 a.id, .int .i64 a.team, .int .i64 a.x, .int .i64 a.y, .int .i64 a.depth, .int .i64 a.speed, .int .i64 a.mast, .int .i64 a.noise, .bool a.afloat, .bool a.radar, .bool a.sonar, .bool a.ping], .agg #[.int .i64 b.id, .int .i64 b.team, .int .i64 b.x, .int .i64 b.y, .int .i64 b.depth, .int .i64 b.speed, .int .i64 b.mast, .int .i64 b.noise, .bool b.afloat, .bool b.radar, .bool b.sonar, .bool b.ping]] w fun e w' => e = .returned (.bool (liveP a b)) ∧ Below w.heap.size w w' := by
  cases h1 : a.afloat <;> cases h2 : b.afloat
  all_goals
    go_enter Try.func20, Try.ntmps20
    go_wp2
    go_ret
    exact ⟨ret_bool (by simp [liveP, h1, h2]), be2 _ _ _⟩
theorem dist_any (w : World) (a b : Shp) (ha : ShpOk a) (hb : ShpOk b) : Calls Try.prog 39 #[.agg #[.int .i64 a.id, .int .i64 a.team, .int .i64 a.x, .int .i64 a.y, .int .i64 a.depth, .int .i64 a.speed, .int .i64 a.mast, .int .i64 a.noise, .bool a.afloat, .bool a.radar, .bool a.sonar, .bool a.ping], .agg #[.int .i64 b.id, .int .i64 b.team, .int .i64 b.x, .int .i64 b.y, .int .i64 b.depth, .int .i64 b.speed, .int .i64 b.mast, .int .i64 b.noise, .bool b.afloat, .bool b.radar, .bool b.sonar, .bool b.ping]] w fun e w' => e = .returned (.int .i64 (dstP a b)) ∧ Below w.heap.size w w' := by
  have hc := fun w => hide (distSq_any w a.x a.y b.x b.y ha.x ha.y hb.x hb.y)
  clear ha hb
  go_enter Try.func39, Try.ntmps39
  go_wp2_with fail
  refine (hc _).out.mono ?_
  rintro e w1 ⟨rfl, rfl⟩
  go_wp2
  go_ret
  exact ⟨rfl, be2 _ _ _⟩
end Go.Proofs.Qxb6500776a
