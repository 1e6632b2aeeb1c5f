import Derived.Test.Qxb6500774aKd
import Derived.Test.Qxb6500774aPs1
namespace Go.Proofs.Qxb6500774a
open Go.RowKit
set_option linter.unusedVariables false
set_option linter.unusedSimpArgs false

/-- The parser in memory; what lies from B on is not the parser's. -/
structure PK (B p : Nat) (a : Option Addr) (cp : Nat) (s : List Int) (w : World) (q : Pl) (t : TK) (d fe fl fc : Int) : Prop where
  lx : LX (fun j => w.cell? ⟨p, j, none⟩) w p a cp s q
  ho : PlOk s q
  c4 : w.cell? ⟨p, 4, none⟩ = some (.int .i64 t.k)
  c5 : w.cell? ⟨p, 5, none⟩ = some (.string t.x)
  c6 : w.cell? ⟨p, 6, none⟩ = some (.int .i64 t.v)
  c7 : w.cell? ⟨p, 7, none⟩ = some (.int .i64 t.e)
  c8 : w.cell? ⟨p, 8, none⟩ = some (.int .i64 t.l)
  c9 : w.cell? ⟨p, 9, none⟩ = some (.int .i64 t.c)
  c10 : w.cell? ⟨p, 10, none⟩ = some (.int .i64 d)
  c11 : w.cell? ⟨p, 11, none⟩ = some (.int .i64 fe)
  c12 : w.cell? ⟨p, 12, none⟩ = some (.int .i64 fl)
  c13 : w.cell? ⟨p, 13, none⟩ = some (.int .i64 fc)
  fr : ∀ j, w.frozen? ⟨p, j, none⟩ = false
  hp : p < B
  hs : ∀ (i : Nat) c, s[i]? = some c → ∀ b off, a = some ⟨b, off, none⟩ → b < B
  hB : B ≤ w.heap.size
section
variable {B p : Nat} {a : Option Addr} {cp : Nat} {s : List Int} {w w' : World} {q : Pl} {t : TK} {d fe fl fc : Int}
theorem PK.ex (h : PK B p a cp s w q t d fe fl fc) {S : Nat → Prop} (e : Ex S w w') (hS : ∀ k, S k → B ≤ k) : PK B p a cp s w' q t d fe fl fc := by
  have hp : p < w.heap.size := World.block_lt_of_cell? _ _ h.c4
  have hn : ¬ S p := fun x => by have := hS p x; have := h.hp; omega
  exact ⟨⟨e.cell hn h.lx.c0, e.cell hn h.lx.c1, e.cell hn h.lx.c2, e.cell hn h.lx.c3, (e.frozen hn hp).trans h.lx.f1, (e.frozen hn hp).trans h.lx.f2, (e.frozen hn hp).trans h.lx.f3, fun i c hc => by
      obtain ⟨b, off, e', hx⟩ := h.lx.src i c hc
      exact ⟨b, off, e', e.cell (fun x => by have := hS b x; have := h.hs i c hc b off e'; omega) hx⟩, h.lx.ap, fun _ _ => rfl, fun j => (e.frozen hn hp).trans (h.fr j)⟩, h.ho,
    e.cell hn h.c4, e.cell hn h.c5, e.cell hn h.c6, e.cell hn h.c7, e.cell hn h.c8, e.cell hn h.c9, e.cell hn h.c10, e.cell hn h.c11, e.cell hn h.c12, e.cell hn h.c13, fun j => (e.frozen hn hp).trans (h.fr j), h.hp, h.hs, Nat.le_trans h.hB e.size⟩
/-- a new block -/
theorem PK.new (h : PK B p a cp s w q t d fe fl fc) (ob : Obj) : PK B p a cp s (w.alloc ob) q t d fe fl fc := h.ex (S := fun _ => False) ((Ex.refl _ _).alloc ob) (fun _ e => e.elim)
theorem PK.drewN (h : PK B p a cp s w q t d fe fl fc) (n : Nat) : PK B p a cp s (w.drewN n) q t d fe fl fc := h.ex (S := fun _ => False) ((Ex.refl _ _).drewN n) (fun _ e => e.elim)
theorem PK.setN (h : PK B p a cp s w q t d fe fl fc) {g : Nat} (hg : B ≤ g) (j : Nat) (v : Value) : PK B p a cp s (w.setCell ⟨g, j, none⟩ v) q t d fe fl fc := h.ex (S := fun k => k = g) ((Ex.refl (fun k => k = g) w).set (p := g) (j := j) rfl v) (fun _ e => e ▸ hg)
/-- a cell of the parser's own, 4 or above -/
theorem Lx.own {R : Nat → Option Value} {w : World} {p : Nat} {a : Option Addr} {cp : Nat} {s : List Int} {o : Nat} {l : Int} {b : Nat} (h : Lx R w p a cp s o l b) {j : Nat} (hj : 4 ≤ j) (v : Value) : Lx (fun i => (w.setCell ⟨p, j, none⟩ v).cell? ⟨p, i, none⟩) (w.setCell ⟨p, j, none⟩ v) p a cp s o l b := by
  have e0 : ∀ i, i < 4 → (w.setCell ⟨p, j, none⟩ v).cell? ⟨p, i, none⟩ = w.cell? ⟨p, i, none⟩ := fun i hi => set_cell_low _ _ (by omega) _
  exact ⟨(e0 0 (by omega)).trans h.c0, (e0 1 (by omega)).trans h.c1, (e0 2 (by omega)).trans h.c2, (e0 3 (by omega)).trans h.c3, by simp [go_sem, h.f1], by simp [go_sem, h.f2], by simp [go_sem, h.f3], h.src.set h.ap _ _, h.ap, fun _ _ => rfl, fun i => by simp [go_sem, h.fz i]⟩
theorem PK.dep (h : PK B p a cp s w q t d fe fl fc) (d' : Int) : PK B p a cp s (w.setCell ⟨p, 10, none⟩ (.int .i64 d')) q t d' fe fl fc := by
  refine ⟨h.lx.own (by omega) _, h.ho, ?_, ?_, ?_, ?_, ?_, ?_, ?_, ?_, ?_, ?_, fun j => (set_frozen _ _ _ _).trans (h.fr j), h.hp, h.hs, by simpa using h.hB⟩
  all_goals simp [go_sem, h.c4, h.c5, h.c6, h.c7, h.c8, h.c9, h.c10, h.c11, h.c12, h.c13]
theorem PK.kind (h : PK B p a cp s w q t d fe fl fc) (k' : Int) : PK B p a cp s (w.setCell ⟨p, 4, none⟩ (.int .i64 k')) q { t with k := k' } d fe fl fc := by
  refine ⟨h.lx.own (by omega) _, h.ho, ?_, ?_, ?_, ?_, ?_, ?_, ?_, ?_, ?_, ?_, fun j => (set_frozen _ _ _ _).trans (h.fr j), h.hp, h.hs, by simpa using h.hB⟩
  all_goals simp [go_sem, h.c4, h.c5, h.c6, h.c7, h.c8, h.c9, h.c10, h.c11, h.c12, h.c13]
theorem PK.flt (h : PK B p a cp s w q t d fe fl fc) (fe' fl' fc' : Int) : PK B p a cp s (((w.setCell ⟨p, 11, none⟩ (.int .i64 fe')).setCell ⟨p, 12, none⟩ (.int .i64 fl')).setCell ⟨p, 13, none⟩ (.int .i64 fc')) q t d fe' fl' fc' := by
  refine ⟨((h.lx.own (by omega) _).own (by omega) _).own (by omega) _, h.ho, ?_, ?_, ?_, ?_, ?_, ?_, ?_, ?_, ?_, ?_, fun j => by rw [set_frozen, set_frozen, set_frozen]; exact h.fr j, h.hp, h.hs, by simpa using h.hB⟩
  all_goals simp [go_sem, h.c4, h.c5, h.c6, h.c7, h.c8, h.c9, h.c10, h.c11, h.c12, h.c13]
theorem PK.tok (h : PK B p a cp s w q t d fe fl fc) (u : TK) : PK B p a cp s ((((((w.setCell ⟨p, 4, none⟩ (.int .i64 u.k)).setCell ⟨p, 5, none⟩ (.string u.x)).setCell ⟨p, 6, none⟩ (.int .i64 u.v)).setCell ⟨p, 7, none⟩ (.int .i64 u.e)).setCell ⟨p, 8, none⟩ (.int .i64 u.l)).setCell ⟨p, 9, none⟩ (.int .i64 u.c)) q u d fe fl fc := by
  refine ⟨(((((h.lx.own (by omega) _).own (by omega) _).own (by omega) _).own (by omega) _).own (by omega) _).own (by omega) _, h.ho, ?_, ?_, ?_, ?_, ?_, ?_, ?_, ?_, ?_, ?_, fun j => by rw [set_frozen, set_frozen, set_frozen, set_frozen, set_frozen, set_frozen]; exact h.fr j, h.hp, h.hs, by simpa using h.hB⟩
  all_goals simp [go_sem, h.c4, h.c5, h.c6, h.c7, h.c8, h.c9, h.c10, h.c11, h.c12, h.c13]
end
set_option maxRecDepth 100000 in
set_option maxHeartbeats 4000000 in
/-- parser.fail, the first time -/
theorem failK_first {B p : Nat} {a : Option Addr} {cp : Nat} {s : List Int} (w : World) {q : Pl} {t : TK} {d fl fc : Int} (h : PK B p a cp s w q t d 0 fl fc) (hk : (t.k == 1) = false) (er : Int) :
    Calls Try.prog 71 #[.pointer (some ⟨p, 0, none⟩), .int .i64 er] w fun e w' => e = .returned (.tuple #[]) ∧ Ex (fun k => k = p) w w' ∧ PK B p a cp s w' q { t with k := 1 } d er t.l t.c := by
  have H := hide h
  have c4 := h.c4
  have c8 := h.c8
  have c9 := h.c9
  have c11 := h.c11
  have c12 := h.c12
  have c13 := h.c13
  have f4 := h.fr 4
  have f11 := h.fr 11
  have f12 := h.fr 12
  have f13 := h.fr 13
  clear h
  go_enter Try.func71, Try.ntmps71
  go_wp2_with fail
  go_region
  go_wp2
  refine ⟨rfl, .tuple #[], by simp [results, Try.results71], rfl, ?_, ?_⟩
  · exact (((((Ex.refl (fun k => k = p) w).set (p := p) rfl _).set (p := p) rfl _).set (p := p) rfl _).set (p := p) rfl _).drew
  · exact ((H.out.flt er t.l t.c).kind 1).drewN 1
set_option maxRecDepth 100000 in
/-- parser.fail, with a fault on record -/
theorem failK_again {B p : Nat} {a : Option Addr} {cp : Nat} {s : List Int} (w : World) {q : Pl} {t : TK} {d fe fl fc : Int} (h : PK B p a cp s w q t d fe fl fc) (hf : (fe != 0) = true) (er : Int) :
    Calls Try.prog 71 #[.pointer (some ⟨p, 0, none⟩), .int .i64 er] w fun e w' => e = .returned (.tuple #[]) ∧ w = w' := by
  have c11 := h.c11
  clear h
  go_enter Try.func71, Try.ntmps71
  go_wp2
  exact ⟨rfl, .tuple #[], by simp [results, Try.results71], rfl, rfl⟩
theorem PK.of_lx {B p : Nat} {a : Option Addr} {cp : Nat} {s : List Int} {w w' : World} {q q' : Pl} {t : TK} {d fe fl fc : Int} (h : PK B p a cp s w q t d fe fl fc) (e : Ex (fun k => k = p) w w') (hx : Lx (fun j => w.cell? ⟨p, j, none⟩) w' p a cp s q'.o q'.l q'.b) (ho : PlOk s q') : PK B p a cp s w' q' t d fe fl fc :=
  have hc : ∀ j, 4 ≤ j → w'.cell? ⟨p, j, none⟩ = w.cell? ⟨p, j, none⟩ := hx.hi
  ⟨⟨hx.c0, hx.c1, hx.c2, hx.c3, hx.f1, hx.f2, hx.f3, hx.src, hx.ap, fun _ _ => rfl, hx.fz⟩, ho, (hc 4 (by omega)).trans h.c4, (hc 5 (by omega)).trans h.c5, (hc 6 (by omega)).trans h.c6, (hc 7 (by omega)).trans h.c7, (hc 8 (by omega)).trans h.c8, (hc 9 (by omega)).trans h.c9, (hc 10 (by omega)).trans h.c10, (hc 11 (by omega)).trans h.c11, (hc 12 (by omega)).trans h.c12, (hc 13 (by omega)).trans h.c13, hx.fz, h.hp, h.hs, Nat.le_trans h.hB e.size⟩
end Go.Proofs.Qxb6500774a
