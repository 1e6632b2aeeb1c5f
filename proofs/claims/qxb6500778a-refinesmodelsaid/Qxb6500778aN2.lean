import Derived.Test.Qxb6500778aN1
namespace Go.Proofs.Qxb6500778a
open Go.RowKit

/-! ### The network, plain and in memory -/
structure Rt where
  pr : Int
  ln : Int
  hp : Int
deriving DecidableEq
structure Rl where
  pm : Bool
  pr : Int
  ln : Int
  cl : Int
deriving DecidableEq
structure Dv where
  rt : List Rt
  ac : List Rl
  up : Bool
  lk : Int
deriving DecidableEq
def Rt.vals (r : Rt) : List Value := [.int .i64 r.pr, .int .i64 r.ln, .int .i64 r.hp]
def Rl.vals (r : Rl) : List Value := [.bool r.pm, .int .i64 r.pr, .int .i64 r.ln, .int .i64 r.cl]
def flatR (L : List Rt) : List Value := L.flatMap Rt.vals
def flatA (L : List Rl) : List Value := L.flatMap Rl.vals
section
variable {α : Type} (f : α → List Value) (m : Nat) (hf : ∀ x, (f x).length = m)
include hf
theorem fm_take : ∀ (L : List α) (i : Nat), (L.flatMap f).take (i * m) = (L.take i).flatMap f
  | [], i => by simp
  | x :: L, 0 => by simp
  | x :: L, i + 1 => by
    rw [List.flatMap_cons, List.take_succ_cons, List.flatMap_cons, show (i + 1) * m = (f x).length + i * m by rw [hf, Nat.add_mul]; omega, List.take_length_add_append, fm_take L i]
theorem fm_drop : ∀ (L : List α) (i : Nat), (L.flatMap f).drop (i * m) = (L.drop i).flatMap f
  | [], i => by simp
  | x :: L, 0 => by simp
  | x :: L, i + 1 => by
    rw [List.flatMap_cons, List.drop_succ_cons, show (i + 1) * m = (f x).length + i * m by rw [hf, Nat.add_mul]; omega, List.drop_length_add_append, fm_drop L i]
theorem fm_shift (L : List α) (i n : Nat) : shiftL m i n (L.flatMap f) = (L.take (i + 1) ++ (L.drop i).take (n - i)).flatMap f := by
  unfold shiftL
  rw [fm_take f m hf, fm_drop f m hf, fm_take f m hf, List.flatMap_append]
end
theorem rt_len (r : Rt) : r.vals.length = 3 := rfl
theorem rl_len (r : Rl) : r.vals.length = 4 := rfl
theorem ch_len (c : Chg) : c.vals.length = 9 := rfl
theorem rt_one (L : List Rt) : ∀ u ∈ flatR L, u.oneCell' = true := fun u hu => by
  obtain ⟨x, _, hx⟩ := List.mem_flatMap.1 hu
  simp only [Rt.vals, List.mem_cons, List.not_mem_nil, or_false] at hx
  rcases hx with rfl | rfl | rfl <;> rfl
theorem rl_one (L : List Rl) : ∀ u ∈ flatA L, u.oneCell' = true := fun u hu => by
  obtain ⟨x, _, hx⟩ := List.mem_flatMap.1 hu
  simp only [Rl.vals, List.mem_cons, List.not_mem_nil, or_false] at hx
  rcases hx with rfl | rfl | rfl | rfl <;> rfl
theorem ch_one (L : List Chg) : ∀ u ∈ flatC L, u.oneCell' = true := fun u hu => by
  obtain ⟨x, _, hx⟩ := List.mem_flatMap.1 hu
  simp only [Chg.vals, List.mem_cons, List.not_mem_nil, or_false] at hx
  rcases hx with rfl | rfl | rfl | rfl | rfl | rfl | rfl | rfl | rfl <;> rfl
def upd {α : Type} (f : Nat → α) (d : Nat) (x : α) : Nat → α := fun k => if k = d then x else f k
theorem upd_same {α : Type} (f : Nat → α) (d : Nat) (x : α) : upd f d x d = x := if_pos rfl
theorem upd_other {α : Type} (f : Nat → α) {d k : Nat} (x : α) (h : k ≠ d) : upd f d x k = f k := if_neg h
theorem upd_self {α : Type} (f : Nat → α) (d : Nat) : upd f d (f d) = f := by
  funext k
  unfold upd
  split
  · rename_i h; rw [h]
  · rfl
/-- A network in block b: sixteen devices of four cells; each row is its own block. -/
structure NA (w : World) (b : Nat) (N : Nat → Dv) (vr va : Nat → Value) : Prop where
  r : ∀ d, d < 16 → w.cell? ⟨b, d * 4, none⟩ = some (vr d)
  a : ∀ d, d < 16 → w.cell? ⟨b, d * 4 + 1, none⟩ = some (va d)
  u : ∀ d, d < 16 → w.cell? ⟨b, d * 4 + 2, none⟩ = some (.bool (N d).up)
  l : ∀ d, d < 16 → w.cell? ⟨b, d * 4 + 3, none⟩ = some (.int .u16 (N d).lk)
  fz : ∀ j, w.frozen? ⟨b, j, none⟩ = false
  ro : ∀ d, d < 16 → w.ownsRow (b + 1) 77 3 (vr d) (N d).rt.length (flatR (N d).rt)
  ao : ∀ d, d < 16 → w.ownsRow (b + 1) 81 4 (va d) (N d).ac.length (flatA (N d).ac)
  rr : ∀ d d' k, d < 16 → d' < 16 → (vr d).ownBlock = some k → (vr d').ownBlock = some k → d = d'
  aa : ∀ d d' k, d < 16 → d' < 16 → (va d).ownBlock = some k → (va d').ownBlock = some k → d = d'
  ra : ∀ d d' k, d < 16 → d' < 16 → (vr d).ownBlock = some k → (va d').ownBlock = some k → False
/-- The blocks of a network. -/
def Foot (b : Nat) (vr va : Nat → Value) (k : Nat) : Prop := k = b ∨ ∃ d, d < 16 ∧ ((vr d).ownBlock = some k ∨ (va d).ownBlock = some k)
section
variable {w w' : World} {b : Nat} {N : Nat → Dv} {vr va : Nat → Value}
theorem NA.lt (h : NA w b N vr va) : b < w.heap.size := World.block_lt_of_cell? _ _ (h.u 0 (by omega))
theorem NA.foot_lt (h : NA w b N vr va) {k : Nat} (hk : Foot b vr va k) : k < w.heap.size := by
  rcases hk with rfl | ⟨d, hd, hk | hk⟩
  · exact h.lt
  · exact ((h.ro d hd).lt k hk).2
  · exact ((h.ao d hd).lt k hk).2
theorem NA.foot_ge (h : NA w b N vr va) {k : Nat} (hk : Foot b vr va k) : b ≤ k := by
  rcases hk with rfl | ⟨d, hd, hk | hk⟩
  · exact Nat.le_refl _
  · have := ((h.ro d hd).lt k hk).1; omega
  · have := ((h.ao d hd).lt k hk).1; omega
theorem NA.keep (h : NA w b N vr va) {S : Nat → Prop} (e : Ex S w w') (hs : ∀ k, Foot b vr va k → ¬ S k) : NA w' b N vr va :=
  have hb : ¬ S b := hs b (.inl rfl)
  ⟨fun d hd => e.cell hb (h.r d hd), fun d hd => e.cell hb (h.a d hd), fun d hd => e.cell hb (h.u d hd), fun d hd => e.cell hb (h.l d hd), fun j => (e.frozen hb h.lt).trans (h.fz j), fun d hd => own_kept (h.ro d hd) e (fun k hk => hs k (.inr ⟨d, hd, .inl hk⟩)), fun d hd => own_kept (h.ao d hd) e (fun k hk => hs k (.inr ⟨d, hd, .inr hk⟩)), h.rr, h.aa, h.ra⟩
theorem NA.new (h : NA w b N vr va) (e : Ex (fun _ => False) w w') : NA w' b N vr va := h.keep e (fun _ _ e => e)
theorem NA.drewN (h : NA w b N vr va) (n : Nat) : NA (w.drewN n) b N vr va := h.new ((Ex.refl _ w).drewN n)
/-- the routes' row of device d was turned in place -/
theorem NA.rowR (h : NA w b N vr va) {d : Nat} (hd : d < 16) (e : Ex (fun k => some k = (vr d).ownBlock) w w') {L : List Rt} (ho : w'.ownsRow (b + 1) 77 3 (vr d) L.length (flatR L)) : NA w' b (upd N d { N d with rt := L }) vr va := by
  have hb : ¬ some b = (vr d).ownBlock := fun e => by have := ((h.ro d hd).lt b e.symm).1; omega
  refine ⟨fun k hk => e.cell hb (h.r k hk), fun k hk => e.cell hb (h.a k hk), fun k hk => ?_, fun k hk => ?_, fun j => (e.frozen hb h.lt).trans (h.fz j), fun k hk => ?_, fun k hk => ?_, h.rr, h.aa, h.ra⟩
  · have := e.cell hb (h.u k hk)
    by_cases hkd : k = d
    · subst hkd; rw [upd_same]; exact this
    · rw [upd_other _ _ hkd]; exact this
  · have := e.cell hb (h.l k hk)
    by_cases hkd : k = d
    · subst hkd; rw [upd_same]; exact this
    · rw [upd_other _ _ hkd]; exact this
  · by_cases hkd : k = d
    · subst hkd; rw [upd_same]; exact ho
    · rw [upd_other _ _ hkd]; exact own_kept (h.ro k hk) e (fun j hj x => hkd (h.rr k d j hk hd hj x.symm))
  · have := own_kept (h.ao k hk) e (fun j hj x => h.ra d k j hd hk x.symm hj)
    by_cases hkd : k = d
    · subst hkd; rw [upd_same]; exact this
    · rw [upd_other _ _ hkd]; exact this
/-- the ACL's row of device d was turned in place -/
theorem NA.rowA (h : NA w b N vr va) {d : Nat} (hd : d < 16) (e : Ex (fun k => some k = (va d).ownBlock) w w') {L : List Rl} (ho : w'.ownsRow (b + 1) 81 4 (va d) L.length (flatA L)) : NA w' b (upd N d { N d with ac := L }) vr va := by
  have hb : ¬ some b = (va d).ownBlock := fun e => by have := ((h.ao d hd).lt b e.symm).1; omega
  refine ⟨fun k hk => e.cell hb (h.r k hk), fun k hk => e.cell hb (h.a k hk), fun k hk => ?_, fun k hk => ?_, fun j => (e.frozen hb h.lt).trans (h.fz j), fun k hk => ?_, fun k hk => ?_, h.rr, h.aa, h.ra⟩
  · have := e.cell hb (h.u k hk)
    by_cases hkd : k = d
    · subst hkd; rw [upd_same]; exact this
    · rw [upd_other _ _ hkd]; exact this
  · have := e.cell hb (h.l k hk)
    by_cases hkd : k = d
    · subst hkd; rw [upd_same]; exact this
    · rw [upd_other _ _ hkd]; exact this
  · have := own_kept (h.ro k hk) e (fun j hj x => h.ra k d j hk hd hj x.symm)
    by_cases hkd : k = d
    · subst hkd; rw [upd_same]; exact this
    · rw [upd_other _ _ hkd]; exact this
  · by_cases hkd : k = d
    · subst hkd; rw [upd_same]; exact ho
    · rw [upd_other _ _ hkd]; exact own_kept (h.ao k hk) e (fun j hj x => hkd (h.aa k d j hk hd hj x.symm))
theorem set_at (w : World) (b i j : Nat) (v u : Value) (hu : w.cell? ⟨b, i, none⟩ = some u) : (w.setCell ⟨b, i, none⟩ v).cell? ⟨b, j, none⟩ = if j = i then some v else w.cell? ⟨b, j, none⟩ := by
  split
  · rename_i h; subst h; exact World.cell?_setCell_same _ _ _ hu
  · rename_i h; exact World.cell?_setCell_other _ _ _ _ (by first | (simp; done) | (simp; omega))
/-- the routes of device d lie in another row now (grown) -/
theorem NA.setR (h : NA w b N vr va) {d : Nat} (hd : d < 16) {B : Nat} (hB : ∀ k, Foot b vr va k → k < B) (e : Ex (fun k => some k = (vr d).ownBlock) w w') {L : List Rt} {v : Value} (ho : w'.ownsRow (b + 1) 77 3 v L.length (flatR L)) (hv : ∀ k, v.ownBlock = some k → (vr d).ownBlock = some k ∨ B ≤ k) : NA (w'.setCell ⟨b, d * 4, none⟩ v) b (upd N d { N d with rt := L }) (upd vr d v) va := by
  have hb : ¬ some b = (vr d).ownBlock := fun e => by have := ((h.ro d hd).lt b e.symm).1; omega
  have hbl : b < w'.heap.size := Nat.lt_of_lt_of_le h.lt e.size
  have e2 : Ex (fun k => k = b) w' (w'.setCell ⟨b, d * 4, none⟩ v) := (Ex.refl (fun k => k = b) w').set (p := b) rfl _
  have hc := e.cell hb (h.r d hd)
  have own2 : ∀ {e s n : Nat} {x : Value} {xs : List Value}, w'.ownsRow (b + 1) e s x n xs → (w'.setCell ⟨b, d * 4, none⟩ v).ownsRow (b + 1) e s x n xs := fun ho => own_kept ho e2 (fun k hk x => by have := (ho.lt k hk).1; omega)
  refine ⟨fun k hk => ?_, fun k hk => ?_, fun k hk => ?_, fun k hk => ?_, fun j => by rw [set_frozen]; exact (e.frozen hb h.lt).trans (h.fz j), fun k hk => ?_, fun k hk => ?_, fun x y k hx hy h1 h2 => ?_, h.aa, fun x y k hx hy h1 h2 => ?_⟩
  · rw [set_at _ _ _ _ _ _ hc]
    by_cases hkd : k = d
    · subst hkd; rw [upd_same, if_pos rfl]
    · rw [upd_other _ _ hkd, if_neg (by omega)]; exact e.cell hb (h.r k hk)
  · rw [set_at _ _ _ _ _ _ hc, if_neg (by omega)]; exact e.cell hb (h.a k hk)
  · rw [set_at _ _ _ _ _ _ hc, if_neg (by omega)]
    have := e.cell hb (h.u k hk)
    by_cases hkd : k = d
    · subst hkd; rw [upd_same]; exact this
    · rw [upd_other _ _ hkd]; exact this
  · rw [set_at _ _ _ _ _ _ hc, if_neg (by omega)]
    have := e.cell hb (h.l k hk)
    by_cases hkd : k = d
    · subst hkd; rw [upd_same]; exact this
    · rw [upd_other _ _ hkd]; exact this
  · by_cases hkd : k = d
    · subst hkd; rw [upd_same, upd_same]; exact own2 ho
    · rw [upd_other _ _ hkd, upd_other _ _ hkd]; exact own2 (own_kept (h.ro k hk) e (fun j hj x => hkd (h.rr k d j hk hd hj x.symm)))
  · have := own2 (own_kept (h.ao k hk) e (fun j hj x => h.ra d k j hd hk x.symm hj))
    by_cases hkd : k = d
    · subst hkd; rw [upd_same]; exact this
    · rw [upd_other _ _ hkd]; exact this
  · by_cases hxd : x = d
    · subst hxd
      by_cases hyd : y = x
      · exact hyd.symm
      · rw [upd_same] at h1
        rw [upd_other _ _ hyd] at h2
        rcases hv k h1 with h3 | h3
        · exact h.rr x y k hx hy h3 h2
        · have := hB k (.inr ⟨y, hy, .inl h2⟩); omega
    · rw [upd_other _ _ hxd] at h1
      by_cases hyd : y = d
      · subst hyd
        rw [upd_same] at h2
        rcases hv k h2 with h3 | h3
        · exact h.rr x y k hx hy h1 h3
        · have := hB k (.inr ⟨x, hx, .inl h1⟩); omega
      · rw [upd_other _ _ hyd] at h2
        exact h.rr x y k hx hy h1 h2
  · by_cases hxd : x = d
    · subst hxd
      rw [upd_same] at h1
      rcases hv k h1 with h3 | h3
      · exact h.ra x y k hx hy h3 h2
      · have := hB k (.inr ⟨y, hy, .inr h2⟩); omega
    · rw [upd_other _ _ hxd] at h1
      exact h.ra x y k hx hy h1 h2
theorem NA.setA (h : NA w b N vr va) {d : Nat} (hd : d < 16) {B : Nat} (hB : ∀ k, Foot b vr va k → k < B) (e : Ex (fun k => some k = (va d).ownBlock) w w') {L : List Rl} {v : Value} (ho : w'.ownsRow (b + 1) 81 4 v L.length (flatA L)) (hv : ∀ k, v.ownBlock = some k → (va d).ownBlock = some k ∨ B ≤ k) : NA (w'.setCell ⟨b, d * 4 + 1, none⟩ v) b (upd N d { N d with ac := L }) vr (upd va d v) := by
  have hb : ¬ some b = (va d).ownBlock := fun e => by have := ((h.ao d hd).lt b e.symm).1; omega
  have hbl : b < w'.heap.size := Nat.lt_of_lt_of_le h.lt e.size
  have e2 : Ex (fun k => k = b) w' (w'.setCell ⟨b, d * 4 + 1, none⟩ v) := (Ex.refl (fun k => k = b) w').set (p := b) rfl _
  have hc := e.cell hb (h.a d hd)
  have own2 : ∀ {e s n : Nat} {x : Value} {xs : List Value}, w'.ownsRow (b + 1) e s x n xs → (w'.setCell ⟨b, d * 4 + 1, none⟩ v).ownsRow (b + 1) e s x n xs := fun ho => own_kept ho e2 (fun k hk x => by have := (ho.lt k hk).1; omega)
  refine ⟨fun k hk => ?_, fun k hk => ?_, fun k hk => ?_, fun k hk => ?_, fun j => by rw [set_frozen]; exact (e.frozen hb h.lt).trans (h.fz j), fun k hk => ?_, fun k hk => ?_, h.rr, fun x y k hx hy h1 h2 => ?_, fun x y k hx hy h1 h2 => ?_⟩
  · rw [set_at _ _ _ _ _ _ hc, if_neg (by omega)]; exact e.cell hb (h.r k hk)
  · rw [set_at _ _ _ _ _ _ hc]
    by_cases hkd : k = d
    · subst hkd; rw [upd_same, if_pos rfl]
    · rw [upd_other _ _ hkd, if_neg (by omega)]; exact e.cell hb (h.a k hk)
  · rw [set_at _ _ _ _ _ _ hc, if_neg (by omega)]
    have := e.cell hb (h.u k hk)
    by_cases hkd : k = d
    · subst hkd; rw [upd_same]; exact this
    · rw [upd_other _ _ hkd]; exact this
  · rw [set_at _ _ _ _ _ _ hc, if_neg (by omega)]
    have := e.cell hb (h.l k hk)
    by_cases hkd : k = d
    · subst hkd; rw [upd_same]; exact this
    · rw [upd_other _ _ hkd]; exact this
  · have := own2 (own_kept (h.ro k hk) e (fun j hj x => h.ra k d j hk hd hj x.symm))
    by_cases hkd : k = d
    · subst hkd; rw [upd_same]; exact this
    · rw [upd_other _ _ hkd]; exact this
  · by_cases hkd : k = d
    · subst hkd; rw [upd_same, upd_same]; exact own2 ho
    · rw [upd_other _ _ hkd, upd_other _ _ hkd]; exact own2 (own_kept (h.ao k hk) e (fun j hj x => hkd (h.aa k d j hk hd hj x.symm)))
  · by_cases hxd : x = d
    · subst hxd
      by_cases hyd : y = x
      · exact hyd.symm
      · rw [upd_same] at h1
        rw [upd_other _ _ hyd] at h2
        rcases hv k h1 with h3 | h3
        · exact h.aa x y k hx hy h3 h2
        · have := hB k (.inr ⟨y, hy, .inr h2⟩); omega
    · rw [upd_other _ _ hxd] at h1
      by_cases hyd : y = d
      · subst hyd
        rw [upd_same] at h2
        rcases hv k h2 with h3 | h3
        · exact h.aa x y k hx hy h1 h3
        · have := hB k (.inr ⟨x, hx, .inr h1⟩); omega
      · rw [upd_other _ _ hyd] at h2
        exact h.aa x y k hx hy h1 h2
  · by_cases hyd : y = d
    · subst hyd
      rw [upd_same] at h2
      rcases hv k h2 with h3 | h3
      · exact h.ra x y k hx hy h1 h3
      · have := hB k (.inr ⟨x, hx, .inl h1⟩); omega
    · rw [upd_other _ _ hyd] at h2
      exact h.ra x y k hx hy h1 h2
theorem NA.setU (h : NA w b N vr va) {d : Nat} (hd : d < 16) (x : Bool) : NA (w.setCell ⟨b, d * 4 + 2, none⟩ (.bool x)) b (upd N d { N d with up := x }) vr va := by
  have e2 : Ex (fun k => k = b) w (w.setCell ⟨b, d * 4 + 2, none⟩ (.bool x)) := (Ex.refl (fun k => k = b) w).set (p := b) rfl _
  have hc := h.u d hd
  have own2 : ∀ {e s n : Nat} {v : Value} {xs : List Value}, w.ownsRow (b + 1) e s v n xs → (w.setCell ⟨b, d * 4 + 2, none⟩ (.bool x)).ownsRow (b + 1) e s v n xs := fun ho => own_kept ho e2 (fun k hk x => by have := (ho.lt k hk).1; omega)
  refine ⟨fun k hk => ?_, fun k hk => ?_, fun k hk => ?_, fun k hk => ?_, fun j => by rw [set_frozen]; exact h.fz j, fun k hk => ?_, fun k hk => ?_, h.rr, h.aa, h.ra⟩
  · rw [set_at _ _ _ _ _ _ hc, if_neg (by omega)]; exact h.r k hk
  · rw [set_at _ _ _ _ _ _ hc, if_neg (by omega)]; exact h.a k hk
  · rw [set_at _ _ _ _ _ _ hc]
    by_cases hkd : k = d
    · subst hkd; rw [upd_same, if_pos rfl]
    · rw [upd_other _ _ hkd, if_neg (by omega)]; exact h.u k hk
  · rw [set_at _ _ _ _ _ _ hc, if_neg (by omega)]
    by_cases hkd : k = d
    · subst hkd; rw [upd_same]; exact h.l k hk
    · rw [upd_other _ _ hkd]; exact h.l k hk
  · by_cases hkd : k = d
    · subst hkd; rw [upd_same]; exact own2 (h.ro k hk)
    · rw [upd_other _ _ hkd]; exact own2 (h.ro k hk)
  · by_cases hkd : k = d
    · subst hkd; rw [upd_same]; exact own2 (h.ao k hk)
    · rw [upd_other _ _ hkd]; exact own2 (h.ao k hk)
theorem NA.setL (h : NA w b N vr va) {d : Nat} (hd : d < 16) (x : Int) : NA (w.setCell ⟨b, d * 4 + 3, none⟩ (.int .u16 x)) b (upd N d { N d with lk := x }) vr va := by
  have e2 : Ex (fun k => k = b) w (w.setCell ⟨b, d * 4 + 3, none⟩ (.int .u16 x)) := (Ex.refl (fun k => k = b) w).set (p := b) rfl _
  have hc := h.l d hd
  have own2 : ∀ {e s n : Nat} {v : Value} {xs : List Value}, w.ownsRow (b + 1) e s v n xs → (w.setCell ⟨b, d * 4 + 3, none⟩ (.int .u16 x)).ownsRow (b + 1) e s v n xs := fun ho => own_kept ho e2 (fun k hk x => by have := (ho.lt k hk).1; omega)
  refine ⟨fun k hk => ?_, fun k hk => ?_, fun k hk => ?_, fun k hk => ?_, fun j => by rw [set_frozen]; exact h.fz j, fun k hk => ?_, fun k hk => ?_, h.rr, h.aa, h.ra⟩
  · rw [set_at _ _ _ _ _ _ hc, if_neg (by omega)]; exact h.r k hk
  · rw [set_at _ _ _ _ _ _ hc, if_neg (by omega)]; exact h.a k hk
  · rw [set_at _ _ _ _ _ _ hc, if_neg (by omega)]
    by_cases hkd : k = d
    · subst hkd; rw [upd_same]; exact h.u k hk
    · rw [upd_other _ _ hkd]; exact h.u k hk
  · rw [set_at _ _ _ _ _ _ hc]
    by_cases hkd : k = d
    · subst hkd; rw [upd_same, if_pos rfl]
    · rw [upd_other _ _ hkd, if_neg (by omega)]; exact h.l k hk
  · by_cases hkd : k = d
    · subst hkd; rw [upd_same]; exact own2 (h.ro k hk)
    · rw [upd_other _ _ hkd]; exact own2 (h.ro k hk)
  · by_cases hkd : k = d
    · subst hkd; rw [upd_same]; exact own2 (h.ao k hk)
    · rw [upd_other _ _ hkd]; exact own2 (h.ao k hk)
end
end Go.Proofs.Qxb6500778a
