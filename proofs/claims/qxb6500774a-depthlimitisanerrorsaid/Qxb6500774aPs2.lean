import Derived.Test.Qxb6500774aNx1
namespace Go.Proofs.Qxb6500774a
open Go.RowKit

structure Tk where
  k : Int
  x : ByteArray
  v : Int
  e : Int
  l : Int
  c : Int
def tokV (t : Tk) : Value := .agg #[.int .i64 t.k, .string t.x, .int .i64 t.v, .int .i64 t.e, .int .i64 t.l, .int .i64 t.c]
/-- The parser in memory; what lies from B on is not the parser's. -/
structure PS (B p : Nat) (a : Option Addr) (cp : Nat) (s : List Int) (w : World) (o : Nat) (t : Tk) (d fe fl fc : Int) : Prop where
  lx : Lx (fun j => w.cell? ⟨p, j, none⟩) w p a cp s o 1 0
  ho : o ≤ s.length
  c4 : w.cell? ⟨p, 4, none⟩ = some (.int .i64 t.k)
  c5 : w.cell? ⟨p, 5, none⟩ = some (.string t.x)
  c6 : w.cell? ⟨p, 6, none⟩ = some (.int .i64 t.v)
  c7 : w.cell? ⟨p, 7, none⟩ = some (.int .i64 t.e)
  c8 : w.cell? ⟨p, 8, none⟩ = some (.int .i64 t.l)
  c9 : w.cell? ⟨p, 9, none⟩ = some (.int .i64 t.c)
  c10 : w.cell? ⟨p, 10, none⟩ = some (.int .i64 d)
  c11 : w.cell? ⟨p, 11, none⟩ = some (.int .i64 fe)
  c12 : w.cell? ⟨p, 12, none⟩ = some (.int .i64 fl)
  c13 : w.cell? ⟨p, 13, none⟩ = some (.int .i64 fc)
  fr : ∀ j, w.frozen? ⟨p, j, none⟩ = false
  hp : p < B
  hs : ∀ (i : Nat) c, s[i]? = some c → ∀ b off, a = some ⟨b, off, none⟩ → b < B
  hB : B ≤ w.heap.size
section
variable {B p : Nat} {a : Option Addr} {cp : Nat} {s : List Int} {w w' : World} {o : Nat} {t : Tk} {d fe fl fc : Int}
theorem PS.ex (h : PS B p a cp s w o t d fe fl fc) {S : Nat → Prop} (e : Ex S w w') (hS : ∀ k, S k → B ≤ k) : PS B p a cp s w' o t d fe fl fc := by
  have hp : p < w.heap.size := World.block_lt_of_cell? _ _ h.c4
  have hn : ¬ S p := fun x => by have := hS p x; have := h.hp; omega
  exact ⟨⟨e.cell hn h.lx.c0, e.cell hn h.lx.c1, e.cell hn h.lx.c2, e.cell hn h.lx.c3, (e.frozen hn hp).trans h.lx.f1, (e.frozen hn hp).trans h.lx.f2, (e.frozen hn hp).trans h.lx.f3, fun i c hc => by
      obtain ⟨b, off, e', hx⟩ := h.lx.src i c hc
      exact ⟨b, off, e', e.cell (fun x => by have := hS b x; have := h.hs i c hc b off e'; omega) hx⟩, h.lx.ap, fun _ _ => rfl, fun j => (e.frozen hn hp).trans (h.fr j)⟩, h.ho,
    e.cell hn h.c4, e.cell hn h.c5, e.cell hn h.c6, e.cell hn h.c7, e.cell hn h.c8, e.cell hn h.c9, e.cell hn h.c10, e.cell hn h.c11, e.cell hn h.c12, e.cell hn h.c13, fun j => (e.frozen hn hp).trans (h.fr j), h.hp, h.hs, Nat.le_trans h.hB e.size⟩
/-- a new block -/
theorem PS.new (h : PS B p a cp s w o t d fe fl fc) (ob : Obj) : PS B p a cp s (w.alloc ob) o t d fe fl fc := h.ex (S := fun _ => False) ((Ex.refl _ _).alloc ob) (fun _ e => e.elim)
theorem PS.drewN (h : PS B p a cp s w o t d fe fl fc) (n : Nat) : PS B p a cp s (w.drewN n) o t d fe fl fc := h.ex (S := fun _ => False) ((Ex.refl _ _).drewN n) (fun _ e => e.elim)
theorem PS.setN (h : PS B p a cp s w o t d fe fl fc) {g : Nat} (hg : B ≤ g) (j : Nat) (v : Value) : PS B p a cp s (w.setCell ⟨g, j, none⟩ v) o t d fe fl fc := h.ex (S := fun k => k = g) ((Ex.refl (fun k => k = g) w).set (p := g) (j := j) rfl v) (fun _ e => e ▸ hg)
/-- a cell of the parser's own, 4 or above -/
theorem Lx.own {R : Nat → Option Value} {w : World} {p : Nat} {a : Option Addr} {cp : Nat} {s : List Int} {o : Nat} {l : Int} {b : Nat} (h : Lx R w p a cp s o l b) {j : Nat} (hj : 4 ≤ j) (v : Value) : Lx (fun i => (w.setCell ⟨p, j, none⟩ v).cell? ⟨p, i, none⟩) (w.setCell ⟨p, j, none⟩ v) p a cp s o l b := by
  have e0 : ∀ i, i < 4 → (w.setCell ⟨p, j, none⟩ v).cell? ⟨p, i, none⟩ = w.cell? ⟨p, i, none⟩ := fun i hi => set_cell_low _ _ (by omega) _
  exact ⟨(e0 0 (by omega)).trans h.c0, (e0 1 (by omega)).trans h.c1, (e0 2 (by omega)).trans h.c2, (e0 3 (by omega)).trans h.c3, by simp [go_sem, h.f1], by simp [go_sem, h.f2], by simp [go_sem, h.f3], h.src.set h.ap _ _, h.ap, fun _ _ => rfl, fun i => by simp [go_sem, h.fz i]⟩
theorem PS.dep (h : PS B p a cp s w o t d fe fl fc) (d' : Int) : PS B p a cp s (w.setCell ⟨p, 10, none⟩ (.int .i64 d')) o t d' fe fl fc := by
  refine ⟨h.lx.own (by omega) _, h.ho, ?_, ?_, ?_, ?_, ?_, ?_, ?_, ?_, ?_, ?_, fun j => (set_frozen _ _ _ _).trans (h.fr j), h.hp, h.hs, by simpa using h.hB⟩
  all_goals simp [go_sem, h.c4, h.c5, h.c6, h.c7, h.c8, h.c9, h.c10, h.c11, h.c12, h.c13]
theorem PS.kind (h : PS B p a cp s w o t d fe fl fc) (k' : Int) : PS B p a cp s (w.setCell ⟨p, 4, none⟩ (.int .i64 k')) o { t with k := k' } d fe fl fc := by
  refine ⟨h.lx.own (by omega) _, h.ho, ?_, ?_, ?_, ?_, ?_, ?_, ?_, ?_, ?_, ?_, fun j => (set_frozen _ _ _ _).trans (h.fr j), h.hp, h.hs, by simpa using h.hB⟩
  all_goals simp [go_sem, h.c4, h.c5, h.c6, h.c7, h.c8, h.c9, h.c10, h.c11, h.c12, h.c13]
theorem PS.flt (h : PS B p a cp s w o t d fe fl fc) (fe' fl' fc' : Int) : PS B p a cp s (((w.setCell ⟨p, 11, none⟩ (.int .i64 fe')).setCell ⟨p, 12, none⟩ (.int .i64 fl')).setCell ⟨p, 13, none⟩ (.int .i64 fc')) o t d fe' fl' fc' := by
  refine ⟨((h.lx.own (by omega) _).own (by omega) _).own (by omega) _, h.ho, ?_, ?_, ?_, ?_, ?_, ?_, ?_, ?_, ?_, ?_, fun j => by rw [set_frozen, set_frozen, set_frozen]; exact h.fr j, h.hp, h.hs, by simpa using h.hB⟩
  all_goals simp [go_sem, h.c4, h.c5, h.c6, h.c7, h.c8, h.c9, h.c10, h.c11, h.c12, h.c13]
theorem PS.tok (h : PS B p a cp s w o t d fe fl fc) (u : Tk) : PS B p a cp s ((((((w.setCell ⟨p, 4, none⟩ (.int .i64 u.k)).setCell ⟨p, 5, none⟩ (.string u.x)).setCell ⟨p, 6, none⟩ (.int .i64 u.v)).setCell ⟨p, 7, none⟩ (.int .i64 u.e)).setCell ⟨p, 8, none⟩ (.int .i64 u.l)).setCell ⟨p, 9, none⟩ (.int .i64 u.c)) o u d fe fl fc := by
  refine ⟨(((((h.lx.own (by omega) _).own (by omega) _).own (by omega) _).own (by omega) _).own (by omega) _).own (by omega) _, h.ho, ?_, ?_, ?_, ?_, ?_, ?_, ?_, ?_, ?_, ?_, fun j => by rw [set_frozen, set_frozen, set_frozen, set_frozen, set_frozen, set_frozen]; exact h.fr j, h.hp, h.hs, by simpa using h.hB⟩
  all_goals simp [go_sem, h.c4, h.c5, h.c6, h.c7, h.c8, h.c9, h.c10, h.c11, h.c12, h.c13]
end
set_option maxRecDepth 100000 in
set_option maxHeartbeats 4000000 in
/-- parser.fail, the first time -/
theorem fail_first {B p : Nat} {a : Option Addr} {cp : Nat} {s : List Int} (w : World) {o : Nat} {t : Tk} {d fl fc : Int} (h : PS B p a cp s w o t d 0 fl fc) (hk : (t.k == 1) = false) (er : Int) :
    Calls Try.prog 71 #[.pointer (some ⟨p, 0, none⟩), .int .i64 er] w fun e w' => e = .returned (.tuple #[]) ∧ Ex (fun k => k = p) w w' ∧ PS B p a cp s w' o { t with k := 1 } d er t.l t.c := by
  have H := hide h
  have c4 := h.c4
  have c8 := h.c8
  have c9 := h.c9
  have c11 := h.c11
  have c12 := h.c12
  have c13 := h.c13
  have f4 := h.fr 4
  have f11 := h.fr 11
  have f12 := h.fr 12
  have f13 := h.fr 13
  clear h
  go_enter Try.func71, Try.ntmps71
  go_wp2_with fail
  go_region
  go_wp2
  refine ⟨rfl, .tuple #[], by simp [results, Try.results71], rfl, ?_, ?_⟩
  · exact (((((Ex.refl (fun k => k = p) w).set (p := p) rfl _).set (p := p) rfl _).set (p := p) rfl _).set (p := p) rfl _).drew
  · exact ((H.out.flt er t.l t.c).kind 1).drewN 1
set_option maxRecDepth 100000 in
/-- parser.fail, with a fault on record -/
theorem fail_again {B p : Nat} {a : Option Addr} {cp : Nat} {s : List Int} (w : World) {o : Nat} {t : Tk} {d fe fl fc : Int} (h : PS B p a cp s w o t d fe fl fc) (hf : (fe != 0) = true) (er : Int) :
    Calls Try.prog 71 #[.pointer (some ⟨p, 0, none⟩), .int .i64 er] w fun e w' => e = .returned (.tuple #[]) ∧ w = w' := by
  have c11 := h.c11
  clear h
  go_enter Try.func71, Try.ntmps71
  go_wp2
  exact ⟨rfl, .tuple #[], by simp [results, Try.results71], rfl, rfl⟩
/-! ### The tokens to come -/
def Nx (s : List Int) (o : Nat) (t : Tk) (o' : Nat) : Prop := ∀ (R : Nat → Option Value) w p a cp, Lx R w p a cp s o 1 0 → Calls Try.prog 70 #[.pointer (some ⟨p, 0, none⟩)] w fun e w' => e = .returned (tokV t) ∧ Ex (fun k => k = p) w w' ∧ Lx R w' p a cp s o' 1 0
def Str (s : List Int) : Nat → List Tk → Prop
  | _, [] => True
  | o, t :: L => ∃ o', Nx s o t o' ∧ o' ≤ s.length ∧ Str s o' L
/-- In order, with these tokens ahead. -/
def At (B p : Nat) (a : Option Addr) (cp : Nat) (s : List Int) (w : World) (d : Int) : List Tk → Prop
  | [] => False
  | t :: L => ∃ o, PS B p a cp s w o t d 0 0 0 ∧ Str s o L
/-- A fault is on record. -/
def Bad (B p : Nat) (a : Option Addr) (cp : Nat) (s : List Int) (w : World) (fe fl fc : Int) : Prop := ∃ o t d, PS B p a cp s w o t d fe fl fc ∧ t.k = 1 ∧ (fe != 0) = true
theorem PS.of_lx {B p : Nat} {a : Option Addr} {cp : Nat} {s : List Int} {w w' : World} {o o' : Nat} {t : Tk} {d fe fl fc : Int} (h : PS B p a cp s w o t d fe fl fc) (e : Ex (fun k => k = p) w w') (hx : Lx (fun j => w.cell? ⟨p, j, none⟩) w' p a cp s o' 1 0) (ho : o' ≤ s.length) : PS B p a cp s w' o' t d fe fl fc :=
  have hc : ∀ j, 4 ≤ j → w'.cell? ⟨p, j, none⟩ = w.cell? ⟨p, j, none⟩ := hx.hi
  ⟨⟨hx.c0, hx.c1, hx.c2, hx.c3, hx.f1, hx.f2, hx.f3, hx.src, hx.ap, fun _ _ => rfl, hx.fz⟩, ho, (hc 4 (by omega)).trans h.c4, (hc 5 (by omega)).trans h.c5, (hc 6 (by omega)).trans h.c6, (hc 7 (by omega)).trans h.c7, (hc 8 (by omega)).trans h.c8, (hc 9 (by omega)).trans h.c9, (hc 10 (by omega)).trans h.c10, (hc 11 (by omega)).trans h.c11, (hc 12 (by omega)).trans h.c12, (hc 13 (by omega)).trans h.c13, hx.fz, h.hp, h.hs, Nat.le_trans h.hB e.size⟩
set_option maxRecDepth 100000 in
set_option maxHeartbeats 4000000 in
/-- parser.take, of the kind at hand -/
theorem take_yes {B p : Nat} {a : Option Addr} {cp : Nat} {s : List Int} (w : World) {t u : Tk} {L : List Tk} {d : Int} (h : At B p a cp s w d (t :: u :: L)) :
    Calls Try.prog 35 #[.pointer (some ⟨p, 0, none⟩), .int .i64 t.k] w fun e w' => e = .returned (tokV t) ∧ Ex (fun k => k = p) w w' ∧ At B p a cp s w' d (u :: L) := by
  obtain ⟨o, hps, o', hnx, ho', hst⟩ := h
  have H := hide hps
  have HNX := hide hnx
  have HST := hide hst
  have c4 := hps.c4
  have c5 := hps.c5
  have c6 := hps.c6
  have c7 := hps.c7
  have c8 := hps.c8
  have c9 := hps.c9
  have hpl : p < w.heap.size := World.block_lt_of_cell? _ _ c4
  clear hps hnx hst
  have hkk : (t.k != t.k) = false := by simp
  go_enter Try.func35, Try.ntmps35
  go_wp2_with fail
  have hps2 := (H.out.new (.cells #[.int .i64 0, .string ⟨#[]⟩, .int .i64 0, .int .i64 0, .int .i64 0, .int .i64 0] 81)).new (.cells #[.int .i64 t.k, .string t.x, .int .i64 t.v, .int .i64 t.e, .int .i64 t.l, .int .i64 t.c] 81)
  have hr0 := (TB.new w 0 ⟨#[]⟩ 0 0 0 0).keep (S := fun _ => False) ((Ex.refl _ _).alloc (.cells #[.int .i64 t.k, .string t.x, .int .i64 t.v, .int .i64 t.e, .int .i64 t.l, .int .i64 t.c] 81)) (fun e => e)
  have hr1 := TB.new (w.alloc (.cells #[.int .i64 0, .string ⟨#[]⟩, .int .i64 0, .int .i64 0, .int .i64 0, .int .i64 0] 81)) t.k t.x t.v t.e t.l t.c
  rw [show (w.alloc (.cells #[.int .i64 0, .string ⟨#[]⟩, .int .i64 0, .int .i64 0, .int .i64 0, .int .i64 0] 81)).heap.size = w.heap.size + 1 by simp] at hr1
  have HE2 : Hid (Ex (fun k => k = p) w ((w.alloc (.cells #[.int .i64 0, .string ⟨#[]⟩, .int .i64 0, .int .i64 0, .int .i64 0, .int .i64 0] 81)).alloc (.cells #[.int .i64 t.k, .string t.x, .int .i64 t.v, .int .i64 t.e, .int .i64 t.l, .int .i64 t.c] 81))) := ((Ex.refl _ _).alloc _).alloc _
  have hrr : w.heap.size ≤ w.heap.size := Nat.le_refl _
  have HB0 : Hid (B ≤ w.heap.size) := H.out.hB
  clear c4 c5 c6 c7 c8 c9 H
  generalize (w.alloc (.cells #[.int .i64 0, .string ⟨#[]⟩, .int .i64 0, .int .i64 0, .int .i64 0, .int .i64 0] 81)).alloc (.cells #[.int .i64 t.k, .string t.x, .int .i64 t.v, .int .i64 t.e, .int .i64 t.l, .int .i64 t.c] 81) = w2 at *
  obtain ⟨r0, hr0e⟩ : ∃ r, w.heap.size = r := ⟨_, rfl⟩
  have HRR : Hid (w.heap.size ≤ r0) := by rw [hr0e]; exact Nat.le_refl _
  rw [hr0e] at hr0 hr1 hpl HB0 ⊢
  clear hr0e hrr
  refine (HNX.out _ _ p a cp hps2.lx).mono ?_
  rintro e w3 ⟨rfl, hex, hlx⟩
  have hps3 := hps2.of_lx hex hlx ho'
  have HR0 := hide (hr0.keep hex (by omega))
  have HR1 := hide (hr1.keep hex (by omega))
  have HE3 := hide (HE2.out.trans hex)
  have H3 := hide hps3
  clear hps2 hps3 hr0 hr1 HE2 hex hlx HNX
  unfold tokV
  simp only []
  have c4 := H3.out.c4
  have c5 := H3.out.c5
  have c6 := H3.out.c6
  have c7 := H3.out.c7
  have c8 := H3.out.c8
  have c9 := H3.out.c9
  have f4 := H3.out.fr 4
  have f5 := H3.out.fr 5
  have f6 := H3.out.fr 6
  have f7 := H3.out.fr 7
  have f8 := H3.out.fr 8
  have f9 := H3.out.fr 9
  go_upto_region 6 with fail
  have hps4 := H3.out.tok u
  have hr0 := HR0.out.keep ((((((((Ex.refl (fun k => k = p) w3).set (p := p) (j := 4) rfl (.int .i64 u.k)).set (p := p) (j := 5) rfl (.string u.x)).set (p := p) (j := 6) rfl (.int .i64 u.v)).set (p := p) (j := 7) rfl (.int .i64 u.e)).set (p := p) (j := 8) rfl (.int .i64 u.l)).set (p := p) (j := 9) rfl (.int .i64 u.c))) (by omega)
  have hr1 := HR1.out.keep ((((((((Ex.refl (fun k => k = p) w3).set (p := p) (j := 4) rfl (.int .i64 u.k)).set (p := p) (j := 5) rfl (.string u.x)).set (p := p) (j := 6) rfl (.int .i64 u.v)).set (p := p) (j := 7) rfl (.int .i64 u.e)).set (p := p) (j := 8) rfl (.int .i64 u.l)).set (p := p) (j := 9) rfl (.int .i64 u.c))) (by omega)
  have he4 := ((((((HE3.out.set (p := p) (j := 4) rfl (.int .i64 u.k)).set (p := p) (j := 5) rfl (.string u.x)).set (p := p) (j := 6) rfl (.int .i64 u.v)).set (p := p) (j := 7) rfl (.int .i64 u.e)).set (p := p) (j := 8) rfl (.int .i64 u.l)).set (p := p) (j := 9) rfl (.int .i64 u.c))
  generalize (((((w3.setCell ⟨p, 4, none⟩ (.int .i64 u.k)).setCell ⟨p, 5, none⟩ (.string u.x)).setCell ⟨p, 6, none⟩ (.int .i64 u.v)).setCell ⟨p, 7, none⟩ (.int .i64 u.e)).setCell ⟨p, 8, none⟩ (.int .i64 u.l)).setCell ⟨p, 9, none⟩ (.int .i64 u.c) = w4 at *
  clear c4 c5 c6 c7 c8 c9 f4 f5 f6 f7 f8 f9 H3 HR0 HR1 HE3
  have R0 := hr0.c0
  have R1 := hr0.c1
  have R2 := hr0.c2
  have R3 := hr0.c3
  have R4 := hr0.c4
  have R5 := hr0.c5
  have F0 := hr0.f0
  have F1 := hr0.f1
  have F2 := hr0.f2
  have F3 := hr0.f3
  have F4 := hr0.f4
  have F5 := hr0.f5
  have T0 := hr1.c0
  have T1 := hr1.c1
  have T2 := hr1.c2
  have T3 := hr1.c3
  have T4 := hr1.c4
  have T5 := hr1.c5
  have HPF := fun (y0 y1 y2 y3 y4 y5 : Value) => hide ((((((hps4.setN HB0.out 0 y0).setN HB0.out 1 y1).setN HB0.out 2 y2).setN HB0.out 3 y3).setN HB0.out 4 y4).setN HB0.out 5 y5)
  have HEF := fun (y0 y1 y2 y3 y4 y5 : Value) => hide ((((((he4.setNew (p := r0) (j := 0) HRR.out y0).setNew (p := r0) (j := 1) HRR.out y1).setNew (p := r0) (j := 2) HRR.out y2).setNew (p := r0) (j := 3) HRR.out y3).setNew (p := r0) (j := 4) HRR.out y4).setNew (p := r0) (j := 5) HRR.out y5)
  clear hps4 he4 hr0 hr1
  go_wp2
  exact bodyPost_ret (v := .agg #[.int .i64 t.k, .string t.x, .int .i64 t.v, .int .i64 t.e, .int .i64 t.l, .int .i64 t.c]) (by simp [results, Try.results35, go_sem, R0, R1, R2, R3, R4, R5]) rfl ⟨rfl, (HEF _ _ _ _ _ _).out, o', (HPF _ _ _ _ _ _).out, HST.out⟩
end Go.Proofs.Qxb6500774a
