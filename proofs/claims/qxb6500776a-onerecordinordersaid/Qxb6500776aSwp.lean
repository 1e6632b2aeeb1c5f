import Derived.Test.Qxb6500776aRse
import Derived.Test.Qxb6500776aNot
namespace Go.Proofs.Qxb6500776a
open Go.RowKit

/-- The scanner behind load: the ships A are in, the board is B. -/
structure SCN' (w : World) (s : Nat) (A : List Shp) (v2 : Value) (ld tl : Int) (pg : Bool) (M : List Smk) (B : Brd) (C : Nat → Value) : Prop where
  cb : CB w s C
  gh : GH C A
  gsh : GSh C A
  gs : GS C A v2 ld tl pg
  ct : C 1713 = .int .i64 A.length
  bb : BB C B
  sr : SR w v2 M
  nv : v2.ownBlock ≠ some s
  ok : ∀ t ∈ A, ShpOk t
  n : A.length ≤ 48
def SCN (w : World) (s : Nat) (A : List Shp) (v2 : Value) (ld tl : Int) (pg : Bool) (M : List Smk) (B : Brd) : Prop := ∃ C, SCN' w s A v2 ld tl pg M B C
section
variable {w w' : World} {s : Nat} {A : List Shp} {v2 : Value} {ld tl : Int} {pg : Bool} {M : List Smk} {B : Brd}
theorem SCN.keep (h : SCN w s A v2 ld tl pg M B) {S : Nat → Prop} (e : Ex S w w') (hs : ¬ S s) (hv : ∀ k, v2.ownBlock = some k → ¬ S k) : SCN w' s A v2 ld tl pg M B := by
  obtain ⟨C, h⟩ := h
  exact ⟨C, h.cb.keep e hs, h.gh, h.gsh, h.gs, h.ct, h.bb, h.sr.keep e hv, h.nv, h.ok, h.n⟩
theorem SCN.below (h : SCN w s A v2 ld tl pg M B) (hb : Below w.heap.size w w') : SCN w' s A v2 ld tl pg M B := h.keep (Ex.of (S := fun _ => False) hb) (fun e => e) (fun _ _ e => e)
theorem SCN.drew (h : SCN w s A v2 ld tl pg M B) : SCN w.drew s A v2 ld tl pg M B := h.keep ((Ex.refl (fun _ => False) w).drew) (fun e => e) (fun _ _ e => e)
theorem SCN.lt (h : SCN w s A v2 ld tl pg M B) : s < w.heap.size := by
  obtain ⟨C, h⟩ := h
  exact h.cb.lt
theorem SCN.row (h : SCN w s A v2 ld tl pg M B) {k : Nat} (hk : v2.ownBlock = some k) : k < w.heap.size := by
  obtain ⟨C, h⟩ := h
  exact (h.sr.row.lt k hk).2
theorem SCN.other (h : SCN w s A v2 ld tl pg M B) {b : Nat} (hb : w.heap.size ≤ b) (e : Ex (fun k => k = b) w w') : SCN w' s A v2 ld tl pg M B :=
  h.keep e (fun z => by have := h.lt; omega) (fun k hk z => by have := h.row hk; omega)
theorem SCN.note {C' : Nat → Value} {B' : Brd} {C : Nat → Value} (h0 : SCN' w s A v2 ld tl pg M B C) (hc : CB w' s C') (hb : BB C' B') (he : ∀ x, x < 1718 → C' x = C x) (ex : Ex (fun k => k = s) w w') : SCN w' s A v2 ld tl pg M B' := by
  refine ⟨C', hc, ⟨fun c hlt => by rw [he c (by omega)]; exact h0.gh.hd c hlt, fun i hi => by rw [he _ (by have := h0.n; omega)]; exact h0.gh.nx i hi⟩, fun i t ht j v hv => ?_, ⟨by rw [he _ (by omega)]; exact h0.gs.c3, by rw [he _ (by omega)]; exact h0.gs.c4, by rw [he _ (by omega)]; exact h0.gs.c5, by rw [he _ (by omega)]; exact h0.gs.c6, h0.gs.l0, h0.gs.t0, h0.gs.hl, h0.gs.ht, h0.gs.hp⟩, by rw [he _ (by omega)]; exact h0.ct, hb, h0.sr.keep ex (fun k hk z => h0.nv (by rw [hk, z])), h0.nv, h0.ok, h0.n⟩
  have hi := (List.getElem?_eq_some_iff.1 ht).1
  have hj : j < 12 := (List.getElem?_eq_some_iff.1 hv).1
  rw [he _ (by have := h0.n; omega)]
  exact h0.gsh i t ht j v hv
theorem SCN.ship (h : SCN w s A v2 ld tl pg M B) {i : Nat} {t : Shp} (ht : A[i]? = some t) {j : Nat} {v : Value} (hv : t.vals[j]? = some v) : w.cell? ⟨s, 1137 + i * 12 + j, none⟩ = some v := by
  obtain ⟨C, h⟩ := h
  have hi := (List.getElem?_eq_some_iff.1 ht).1
  have hj : j < 12 := (List.getElem?_eq_some_iff.1 hv).1
  rw [h.cb.c _ (by have := h.n; omega), h.gsh i t ht j v hv]
end
/-- The notes D, and those of o by the sensors Ks on the ships G 0 .. G (i - 1) that it sees. -/
def DN (D : Shp → Shp → Nat → Prop) (A : List Shp) (M : List Smk) (o : Shp) (G : List Nat) (Ks : Nat → Prop) (i : Nat) : Shp → Shp → Nat → Prop :=
  fun o' t' k' => D o' t' k' ∨ (o' = o ∧ Ks k' ∧ seeP M o t' k' = true ∧ ∃ j z : Nat, j < i ∧ G[j]? = some z ∧ A[z]? = some t')
/-- The notes D, and all of o by the sensors Ks. -/
def DA (D : Shp → Shp → Nat → Prop) (A : List Shp) (M : List Smk) (o : Shp) (Ks : Nat → Prop) : Shp → Shp → Nat → Prop :=
  fun o' t' k' => D o' t' k' ∨ (o' = o ∧ Ks k' ∧ seeP M o t' k' = true ∧ t' ∈ A ∧ t'.team ≠ o.team)
section
variable {D : Shp → Shp → Nat → Prop} {A : List Shp} {M : List Smk} {o : Shp} {G : List Nat} {Ks : Nat → Prop} {B : Brd}
theorem Bd.zero (h : Bd D B) : Bd (DN D A M o G Ks 0) B := h.iff fun o' t' k' => by
  unfold DN
  constructor
  · rintro (h | ⟨_, _, _, j, z, hj, _⟩)
    · exact h
    · omega
  · exact .inl
theorem DN_succ {i z : Nat} {t : Shp} (hz : G[i]? = some z) (ht : A[z]? = some t) (o' t' : Shp) (k' : Nat) : DN D A M o G Ks (i + 1) o' t' k' ↔ (DN D A M o G Ks i o' t' k' ∨ (o' = o ∧ t' = t ∧ Ks k' ∧ seeP M o t k' = true)) := by
  unfold DN
  constructor
  · rintro (h | ⟨h1, h2, h3, j, y, hj, hy, ha⟩)
    · exact .inl (.inl h)
    · rcases (by omega : j < i ∨ j = i) with e | rfl
      · exact .inl (.inr ⟨h1, h2, h3, j, y, e, hy, ha⟩)
      · rw [hz] at hy; cases hy
        rw [ht] at ha; cases ha
        exact .inr ⟨h1, rfl, h2, h3⟩
  · rintro ((h | ⟨h1, h2, h3, j, y, hj, hy, ha⟩) | ⟨h1, rfl, h2, h3⟩)
    · exact .inl h
    · exact .inr ⟨h1, h2, h3, j, y, by omega, hy, ha⟩
    · exact .inr ⟨h1, h2, h3, i, z, by omega, hz, ht⟩
theorem Bd.done {F : Nat → Int} {r : Int} (h : Bd (DN D A M o G Ks G.length) B) (hf : FOut A G F o r) (hr : ∀ k, Ks k → Rch A M o k r) : Bd (DA D A M o Ks) B := h.iff fun o' t' k' => by
  unfold DN DA
  constructor
  · rintro (h | ⟨h1, h2, h3, h4, h5⟩)
    · exact .inl h
    · obtain ⟨z, hz, rfl⟩ := List.getElem_of_mem h4
      have hm := hf.all z _ (List.getElem?_eq_getElem hz) h5 (hr k' h2 _ h4 h3)
      obtain ⟨j, hj, e⟩ := List.getElem_of_mem hm
      exact .inr ⟨h1, h2, h3, j, z, hj, by rw [List.getElem?_eq_getElem hj, e], List.getElem?_eq_getElem hz⟩
  · rintro (h | ⟨h1, h2, h3, j, z, hj, hz, ha⟩)
    · exact .inl h
    · obtain ⟨t2, ht2, hne⟩ := hf.lt z (List.mem_of_getElem? hz)
      rw [ha] at ht2
      cases ht2
      exact .inr ⟨h1, h2, h3, List.mem_of_getElem? ha, hne⟩
end
def SwpPost (w : World) (s : Nat) (A : List Shp) (v2 : Value) (ld tl : Int) (pg : Bool) (M : List Smk) (D' : Shp → Shp → Nat → Prop) (e : Ending) (w' : World) : Prop :=
  e = .returned (.tuple #[]) ∧ ∃ B', SCN w' s A v2 ld tl pg M B' ∧ Bd D' B' ∧ Ex (fun k => k = s) w w'
/-- note, on the scanner. -/
theorem noteS_any {w : World} {s : Nat} {A : List Shp} {v2 : Value} {ld tl : Int} {pg : Bool} {M : List Smk} {B : Brd} {D : Shp → Shp → Nat → Prop} (h : SCN w s A v2 ld tl pg M B) (hb : Bd D B) (o t : Shp) (ho : ShpOk o) (ht : ShpOk t) (k : Nat) (hk : k < 4) (d g : Int) (hd : d = dstP o t) (hg : g = grP o t k) :
    Calls Try.prog 55 #[.pointer (some ⟨s, 0, none⟩), .agg #[.int .i64 o.id, .int .i64 o.team, .int .i64 o.x, .int .i64 o.y, .int .i64 o.depth, .int .i64 o.speed, .int .i64 o.mast, .int .i64 o.noise, .bool o.afloat, .bool o.radar, .bool o.sonar, .bool o.ping], .agg #[.int .i64 t.id, .int .i64 t.team, .int .i64 t.x, .int .i64 t.y, .int .i64 t.depth, .int .i64 t.speed, .int .i64 t.mast, .int .i64 t.noise, .bool t.afloat, .bool t.radar, .bool t.sonar, .bool t.ping], .int .i64 k, .int .i64 d, .int .i64 g] w (SwpPost w s A v2 ld tl pg M (fun o' t' k' => D o' t' k' ∨ (o' = o ∧ t' = t ∧ k' = k))) := by
  subst hd hg
  obtain ⟨C, h0⟩ := h
  obtain ⟨T, hT⟩ : ∃ T : Nat, o.team = T := ⟨o.team.toNat, by have := ho.team; omega⟩
  obtain ⟨i, hi⟩ : ∃ i : Nat, t.id = i := ⟨t.id.toNat, by have := ht.id; omega⟩
  refine (note_any w s C B h0.cb h0.bb o t ho ht T i k hT hi hk _ _).mono ?_
  rintro e w' ⟨rfl, C', hc, hbb, he, ex⟩
  exact ⟨rfl, _, SCN.note h0 hc hbb he ex, hb.note hT hi, ex⟩
/-- foes, on the scanner. -/
theorem foesS_any {w : World} {s : Nat} {A : List Shp} {v2 : Value} {ld tl : Int} {pg : Bool} {M : List Smk} {B : Brd} (h : SCN w s A v2 ld tl pg M B) (b : Nat) (F : Nat → Int) (hob : OutB w b F) (hbs : b ≠ s) (o : Shp) (ho : ShpOk o) (r : Int) (hr : r ≤ 1099511627776) :
    Calls Try.prog 52 #[.pointer (some ⟨s, 0, none⟩), .agg #[.int .i64 o.id, .int .i64 o.team, .int .i64 o.x, .int .i64 o.y, .int .i64 o.depth, .int .i64 o.speed, .int .i64 o.mast, .int .i64 o.noise, .bool o.afloat, .bool o.radar, .bool o.sonar, .bool o.ping], .int .i64 r, .pointer (some ⟨b, 0, none⟩)] w (FoePost w b A o r) := by
  obtain ⟨C, h⟩ := h
  exact foes_any w s C A h.cb h.gh h.gsh h.ok h.n b F hob hbs o ho r hr
theorem radarReachS {w : World} {s : Nat} {A : List Shp} {v2 : Value} {ld tl : Int} {pg : Bool} {M : List Smk} {B : Brd} (h : SCN w s A v2 ld tl pg M B) (o : Shp) (ho : ShpOk o) :
    Calls Try.prog 53 #[.pointer (some ⟨s, 0, none⟩), .agg #[.int .i64 o.id, .int .i64 o.team, .int .i64 o.x, .int .i64 o.y, .int .i64 o.depth, .int .i64 o.speed, .int .i64 o.mast, .int .i64 o.noise, .bool o.afloat, .bool o.radar, .bool o.sonar, .bool o.ping]] w (RchPost w fun r => ∀ M, Rch A M o 0 r) := by
  obtain ⟨C, h⟩ := h
  exact radarReach_any w s C A v2 ld tl pg h.cb h.gs h.ok o ho
theorem passiveReachS {w : World} {s : Nat} {A : List Shp} {v2 : Value} {ld tl : Int} {pg : Bool} {M : List Smk} {B : Brd} (h : SCN w s A v2 ld tl pg M B) (o : Shp) (ho : ShpOk o) :
    Calls Try.prog 57 #[.pointer (some ⟨s, 0, none⟩), .agg #[.int .i64 o.id, .int .i64 o.team, .int .i64 o.x, .int .i64 o.y, .int .i64 o.depth, .int .i64 o.speed, .int .i64 o.mast, .int .i64 o.noise, .bool o.afloat, .bool o.radar, .bool o.sonar, .bool o.ping]] w (RchPost w fun r => (∀ M, Rch A M o 1 r) ∧ (o.sonar = false → r < 0)) := by
  obtain ⟨C, h⟩ := h
  exact passiveReach_any w s C A v2 ld tl pg h.cb h.gs h.ok o ho
theorem pingReachS {w : World} {s : Nat} {A : List Shp} {v2 : Value} {ld tl : Int} {pg : Bool} {M : List Smk} {B : Brd} (h : SCN w s A v2 ld tl pg M B) (o : Shp) (hm : o ∈ A) :
    Calls Try.prog 60 #[.pointer (some ⟨s, 0, none⟩), .agg #[.int .i64 o.id, .int .i64 o.team, .int .i64 o.x, .int .i64 o.y, .int .i64 o.depth, .int .i64 o.speed, .int .i64 o.mast, .int .i64 o.noise, .bool o.afloat, .bool o.radar, .bool o.sonar, .bool o.ping]] w (RchPost w fun r => ∀ M, Rch A M o 2 r ∧ Rch A M o 3 r) := by
  obtain ⟨C, h⟩ := h
  exact pingReach_any w s C A v2 ld tl pg h.cb h.gs o hm
theorem radarSeesS {w : World} {s : Nat} {A : List Shp} {v2 : Value} {ld tl : Int} {pg : Bool} {M : List Smk} {B : Brd} (h : SCN w s A v2 ld tl pg M B) (o t : Shp) (ho : ShpOk o) (ht : ShpOk t) (d : Int) (hd : d = dstP o t) :
    Calls Try.prog 54 #[.pointer (some ⟨s, 0, none⟩), .agg #[.int .i64 o.id, .int .i64 o.team, .int .i64 o.x, .int .i64 o.y, .int .i64 o.depth, .int .i64 o.speed, .int .i64 o.mast, .int .i64 o.noise, .bool o.afloat, .bool o.radar, .bool o.sonar, .bool o.ping], .agg #[.int .i64 t.id, .int .i64 t.team, .int .i64 t.x, .int .i64 t.y, .int .i64 t.depth, .int .i64 t.speed, .int .i64 t.mast, .int .i64 t.noise, .bool t.afloat, .bool t.radar, .bool t.sonar, .bool t.ping], .int .i64 d] w fun e w' => e = .returned (.bool (radP M o t)) ∧ Below w.heap.size w w' := by
  obtain ⟨C, h⟩ := h
  exact radarSees_any w s C v2 M h.cb h.gs.c3 h.sr o t ho ht d hd
end Go.Proofs.Qxb6500776a
