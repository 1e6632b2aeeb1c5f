import Derived.Test.Qxb6500777aRm3
namespace Go.Proofs.Qxb6500777a
open Go.RowKit

theorem AA.ex {w w' : World} {g n : Nat} {A : Nat → Slt} (h : AA w g n A) (hg : g < w.heap.size) {S : Nat → Prop} (k : Ex S w w') (hs : ¬ S g) : AA w' g n A := by
  have hb : w'.heap[g]? = w.heap[g]? := k.block g hg hs
  exact ⟨fun i hi => ⟨fun j v hv => by rw [World.cell?_of_block hb]; exact (h.c i hi).c j v hv, fun j => (World.frozen?_of_block hb).trans (h.f j)⟩, fun j => (World.frozen?_of_block hb).trans (h.f j)⟩
theorem Fr.grown {b lo n : Nat} {w W w3 : World} (h : Fr b lo n w W) (hb : b < w.heap.size) {row : Option Nat} (hg : W.grownBy w3 row) (hr : ∀ k, row = some k → w.heap.size ≤ k) : Fr b lo n w w3 := by
  have hbW : b < W.heap.size := Nat.lt_of_lt_of_le hb h.ex.size
  have hbl : w3.heap[b]? = W.heap[b]? := hg.block b hbW (fun e => by have := hr b e.symm; omega)
  refine ⟨h.ex.trans2 (Ex.ofGrown (S := fun k => row = some k) hg (fun k e => e.symm)) (fun j hj => .inr (hr j hj)), fun j hj => ?_, fun j => ?_, fun c t f e => ?_⟩
  · rw [World.cell?_of_block hbl]; exact h.cell j hj
  · rw [World.frozen?_of_block hbl]; exact h.fr j
  · obtain ⟨c', f', e'⟩ := h.ty c t f e
    exact ⟨c', f', by rw [hbl]; exact e'⟩
theorem Fr.bel {b lo n : Nat} {w W w3 : World} (h : Fr b lo n w W) (hb : b < w.heap.size) (k : Below W.heap.size W w3) : Fr b lo n w w3 := h.trans (Fr.of (Nat.lt_of_lt_of_le hb h.ex.size) k)
/-- A store into a new block. -/
theorem Fr.other {b lo n : Nat} {w W w3 : World} (h : Fr b lo n w W) (hb : b < w.heap.size) {g lo' n' : Nat} (k : Fr g lo' n' W w3) (hg : w.heap.size ≤ g) : Fr b lo n w w3 :=
  h.grown hb (row := some g) (Ex.grown k.ex (fun j e => by rw [e])) (fun j e => by cases e; exact hg)
theorem VA.reset {w : World} {mb o B n c : Nat} {a : Option Addr} {E : List Slt} {nx : Int} (h : VA w mb o B a n c E nx) {B' : Nat} (hB : mb < B') : VA (w.setCell ⟨mb, o, none⟩ (.slice none 0 0)) mb o B' none 0 0 [] nx ∧ Fr mb o 2 w (w.setCell ⟨mb, o, none⟩ (.slice none 0 0)) := by
  refine ⟨⟨World.cell?_setCell_same _ _ _ h.c0, ?_, fun j => by rw [set_frozen]; exact h.f j, World.ownsRow_nil _ _ _ _, rfl, hB⟩, (Fr.refl _ _ _ _).set (by omega) (by omega) _⟩
  rw [World.cell?_setCell_other _ _ _ _ (by simp)]
  exact h.c1
theorem VA.nown {w : World} {mb o B n c : Nat} {a : Option Addr} {E : List Slt} {nx : Int} (h : VA w mb o B a n c E nx) : (Value.slice a n c).ownBlock ≠ some mb := fun e => by
  have := (h.row.own e).1
  have := h.lt
  omega
theorem VA.kept {W w2 : World} {mb o B n c : Nat} {a : Option Addr} {E : List Slt} {nx : Int} (h : VA W mb o B a n c E nx) {row : Option Nat} (hr : row ≠ some mb) (hg : W.grownBy w2 row) : w2.cell? ⟨mb, o, none⟩ = some (.slice a n c) ∧ w2.cell? ⟨mb, o + 1, none⟩ = some (.int .i64 nx) ∧ ∀ j, w2.frozen? ⟨mb, j, none⟩ = false := by
  have hb : w2.heap[mb]? = W.heap[mb]? := hg.block mb h.ml (fun e => hr e.symm)
  exact ⟨by rw [World.cell?_of_block hb]; exact h.c0, by rw [World.cell?_of_block hb]; exact h.c1, fun j => (World.frozen?_of_block hb).trans (h.f j)⟩
/-- An append to the view's list, and the store behind it. -/
theorem VA.push {W w2 : World} {mb o B n c : Nat} {a : Option Addr} {E : List Slt} {nx : Int} (h : VA W mb o B a n c E nx) {a2 : Option Addr} {n2 c2 : Nat} {E2 : List Slt} (hr : ERow w2 B (.slice a2 n2 c2) E2) (hn : n2 = E2.length) (hg : W.grownBy w2 (Value.slice a n c).ownBlock) :
    VA (w2.setCell ⟨mb, o, none⟩ (.slice a2 n2 c2)) mb o B a2 n2 c2 E2 nx := by
  obtain ⟨k0, k1, kf⟩ := h.kept h.nown hg
  have k : Fr mb o 2 w2 (w2.setCell ⟨mb, o, none⟩ (.slice a2 n2 c2)) := (Fr.refl _ _ _ _).set (by omega) (by omega) _
  refine ⟨World.cell?_setCell_same _ _ _ k0, ?_, fun j => by rw [set_frozen]; exact kf j, hr.keep k.ex (fun g hg e => by have := (hr.own hg).1; have := h.lt; omega), hn, h.lt⟩
  rw [World.cell?_setCell_other _ _ _ _ (by simp)]
  exact k1
/-- .. and another row's. -/
theorem VA.grown {W w2 : World} {mb o B n c : Nat} {a : Option Addr} {E : List Slt} {nx : Int} (h : VA W mb o B a n c E nx) {row : Option Nat} (hr : row ≠ some mb) (hv : ∀ g, (Value.slice a n c).ownBlock = some g → row ≠ some g) (hg : W.grownBy w2 row) : VA w2 mb o B a n c E nx := by
  obtain ⟨k0, k1, kf⟩ := h.kept hr hg
  exact ⟨k0, k1, kf, h.row.keep (Ex.ofGrown (S := fun k => row = some k) hg (fun k e => e.symm)) (fun g hg' => hv g hg'), h.len, h.lt⟩
theorem dr_bel (w : World) : Below w.heap.size w w.drew := (Below.refl _ _).drew
theorem ERow.snoc {w2 : World} {B : Nat} {V : List Slt} {s : Slt} {g c : Nat} (h : w2.ownsRow B 113 9 (.slice (some ⟨g, 0, none⟩) (V.length + 1) c) (V.length + 1) (V.flatMap Ev ++ Ev s)) : ERow w2 B (.slice (some ⟨g, 0, none⟩) (V.length + 1) c) (V ++ [s]) := by
  unfold ERow
  rw [List.length_append, List.flatMap_append]
  have e : [s].flatMap Ev = Ev s := by simp
  rw [e]
  exact h
/-- What a tick only reads. -/
structure TC (w : World) (m p : Nat) (X Y : Nat → Int) (W : Nat → Tgt) (da : Option Addr) (D : List Det) : Prop where
  mt : MT w m X Y
  wa : WA w p W
  dd : DA w da D
structure TN (m p mb : Nat) (da : Option Addr) : Prop where
  m : m ≠ mb
  p : p ≠ mb
  d : ∀ g off, da = some ⟨g, off, none⟩ → g ≠ mb
theorem TC.below {w w' : World} {m p : Nat} {X Y : Nat → Int} {W : Nat → Tgt} {da : Option Addr} {D : List Det} (h : TC w m p X Y W da D) (k : Below w.heap.size w w') : TC w' m p X Y W da D := ⟨h.mt.below k, h.wa.below k, h.dd.below k⟩
theorem TC.fr {w w' : World} {m p mb lo n : Nat} {X Y : Nat → Int} {W : Nat → Tgt} {da : Option Addr} {D : List Det} (h : TC w m p X Y W da D) (hn : TN m p mb da) (k : Fr mb lo n w w') : TC w' m p X Y W da D :=
  ⟨h.mt.keep k.ex hn.m, h.wa.keep k.ex hn.p, h.dd.keep k.ex (fun g off e => hn.d g off e)⟩
set_option maxRecDepth 100000 in
theorem make113 (w : World) (n : Nat) (hn : n ≤ 1000000) : (Instr.makeSlice 101 (.int .i64 (n : Int)) (.int .i64 (n : Int))).run Try.prog w = .ok (.slice (some ⟨w.heap.size, 0, none⟩) n n) (w.alloc (.cells (madeCells #[.int .i64 0, .int .i64 0, .int .i64 0, .int .i64 0, .int .i64 0, .int .i64 0, .int .i64 0, .int .i64 0, .int .i64 0] (n * 9)) 113)) := by
  obtain ⟨i0, hi0, hz0, hz1, hz2⟩ : ∃ i0, Try.prog.info? 113 = some i0 ∧ i0.zero = some (.agg #[.int .i64 0, .int .i64 0, .int .i64 0, .int .i64 0, .int .i64 0, .int .i64 0, .int .i64 0, .int .i64 0, .int .i64 0]) ∧ i0.size = 9 ∧ i0.bytes = 72 := ⟨_, rfl, rfl, rfl, rfl⟩
  have := run_make (P := Try.prog) w 101 113 i0 _ Try.underlying101 hi0 hz0 .i64 .i64 (n : Int) (n : Int) (by omega) (Int.le_refl _) (by rw [hz2]; omega) (by omega)
  rw [hz1, Int.toNat_natCast] at this
  exact this
/-- The cells of an entry, where it lies. -/
def E9 (w : World) (g o : Nat) (s : Slt) : Prop := RA w g o (Ev s)
theorem vobs {best : Nat → Int} {W : Nat → Tgt} {X Y : Nat → Int} {s : Slt} (hu : s.used = true) {t : Nat} (ht : s.tg = t) : obsS best W X Y s = if 0 < best t then refreshP s (W t) (best t) else coastP X Y s := by
  unfold obsS
  rw [if_pos hu, ht, Int.toNat_natCast]
/-- The entries below i are observed. -/
def obsA (best : Nat → Int) (W : Nat → Tgt) (X Y : Nat → Int) (E : List Slt) (i : Nat) : Nat → Slt := fun k => if k < i then obsS best W X Y (atM E k) else slt0
theorem obsA_succ (best : Nat → Int) (W : Nat → Tgt) (X Y : Nat → Int) (E : List Slt) (i : Nat) : ∀ k, upd (obsA best W X Y E i) i (obsS best W X Y (atM E i)) k = obsA best W X Y E (i + 1) k := fun k => by
  unfold obsA
  by_cases e : k = i
  · subst e; rw [upd_same, if_pos (by omega)]
  · rw [upd_ne _ _ e]
    by_cases z : k < i
    · rw [if_pos z, if_pos (by omega)]
    · rw [if_neg z, if_neg (by omega)]
/-- The entries kept of the first i. -/
def drN (S : Nat → Slt) (i : Nat) : List Slt := dropM ((List.range i).map S)
theorem drN_succ (S : Nat → Slt) (i : Nat) : drN S (i + 1) = drN S i ++ (if (S i).tr.ag < 30 then [S i] else []) := by
  unfold drN dropM
  rw [List.range_succ, List.map_append, List.filter_append]
  congr 1
  by_cases h : (S i).tr.ag < 30 <;> simp [h]
theorem drN_len (S : Nat → Slt) (i : Nat) : (drN S i).length ≤ i := by
  unfold drN dropM
  exact Nat.le_trans (List.length_filter_le _ _) (by rw [List.length_map, List.length_range]; omega)
def lenV : Value → Nat
  | .slice _ n _ => n
  | _ => 0
theorem nw_refresh {best : Nat → Int} {W : Nat → Tgt} {t : Nat} (hb : 1 ≤ best t) : refreshP ⟨true, t, 0, trk0⟩ (W t) (best t) = nwS (newC best W t) 0 := by
  unfold refreshP creditP nwS newC
  dsimp only
  rw [if_neg (by show ¬ (0 : Int) = 3; omega), if_neg (by show ¬ best t < 0 + 1; omega), if_neg (by show ¬ (0 : Int) + 1 = 0 + 2; omega)]
  rfl
theorem take_succ {α : Type} {L : List α} {i : Nat} {x : α} (h : L[i]? = some x) : L.take (i + 1) = L.take i ++ [x] := by rw [List.take_add_one, h]; rfl
theorem filt_take {p : Slt → Bool} {L : List Slt} {i : Nat} {x : Slt} (h : L[i]? = some x) : (L.take (i + 1)).filter p = (L.take i).filter p ++ (if p x then [x] else []) := by
  rw [take_succ h, List.filter_append]
  congr 1
  cases hp : p x <;> simp [hp]
theorem ERow.at' {w : World} {B g c n : Nat} {L : List Slt} (h : ERow w B (.slice (some ⟨g, 0, none⟩) n c) L) (hn : L.length = n) {i : Nat} {t : Slt} (hi : L[i]? = some t) : RA w g (i * 9) (Ev t) := by
  subst hn
  exact h.at hi
theorem z43 {w' : World} {B gf nF cf i x : Nat} {F : List Slt} {fi fx : Slt} (h : ERow w' B (.slice (some ⟨gf, 0, none⟩) nF cf) F) (hn : F.length = nF) (hi : F[i]? = some fi) (hx : F[x]? = some fx) : RA w' gf (i * 9) (Ev fi) ∧ RA w' gf (x * 9) (Ev fx) := ⟨h.at' hn hi, h.at' hn hx⟩
theorem z60 {w' : World} {mb o B gv n1 cv i x : Nat} {V1 : List Slt} {nc : Int} {vi vx : Slt} (h : VA w' mb o B (some ⟨gv, 0, none⟩) n1 cv V1 nc) (hi : V1[i]? = some vi) (hx : V1[x]? = some vx) : w'.cell? ⟨mb, o, none⟩ = some (.slice (some ⟨gv, 0, none⟩) n1 cv) ∧ RA w' gv (i * 9) (Ev vi) ∧ RA w' gv (x * 9) (Ev vx) := ⟨h.c0, h.row.at' h.len.symm hi, h.row.at' h.len.symm hx⟩
theorem z67 {w' : World} {mb o B gv n1 cv i q : Nat} {V1 : List Slt} {nc : Int} {vi vx : Slt} (h : VA w' mb o B (some ⟨gv, 0, none⟩) n1 cv V1 nc) (hi : V1[i]? = some vi) (hq : ∀ k, k < 7 → w'.cell? ⟨q, k, none⟩ = some (.int .i64 (kf vx k))) : w'.cell? ⟨mb, o, none⟩ = some (.slice (some ⟨gv, 0, none⟩) n1 cv) ∧ RA w' gv (i * 9) (Ev vi) ∧ w'.cell? ⟨q, 0, none⟩ = some (.int .i64 vx.tr.ag) ∧ w'.cell? ⟨q, 1, none⟩ = some (.int .i64 vx.tr.x) ∧ w'.cell? ⟨q, 2, none⟩ = some (.int .i64 vx.tr.y) ∧ w'.cell? ⟨q, 3, none⟩ = some (.int .i64 vx.tr.co) ∧ w'.cell? ⟨q, 4, none⟩ = some (.int .i64 vx.tr.sp) ∧ w'.cell? ⟨q, 5, none⟩ = some (.int .i64 vx.tr.st) ∧ w'.cell? ⟨q, 6, none⟩ = some (.int .i64 vx.sk) := ⟨h.c0, h.row.at' h.len.symm hi, hq 0 (by omega), hq 1 (by omega), hq 2 (by omega), hq 3 (by omega), hq 4 (by omega), hq 5 (by omega), hq 6 (by omega)⟩
theorem worse_irr (t : Trk) : worseP t t = false := by
  cases h : worseP t t
  · rfl
  · rw [worse_iff] at h; omega
theorem worse_up {f v x : Trk} (h1 : worseP f x = false) (h2 : worseP v x = true) : worseP f v = false := by
  cases h : worseP f v
  · rfl
  · have h3 : ¬ worseP f x = true := by rw [h1]; decide
    rw [worse_iff] at h h2 h3
    omega
theorem filt_sum {V : List Slt} {k : Int} : (V.filter (fun s => decide (keyP s = k))).length + (V.filter (fun s => decide (keyP s ≠ k))).length = V.length := by
  induction V with
  | nil => rfl
  | cons a V ih =>
    by_cases h : keyP a = k
    · rw [List.filter_cons_of_pos (by simp [h]), List.filter_cons_of_neg (by simp [h]), List.length_cons, List.length_cons]; omega
    · rw [List.filter_cons_of_neg (by simp [h]), List.filter_cons_of_pos (by simp [h]), List.length_cons, List.length_cons]; omega
theorem filt_pos {V : List Slt} {a : Slt} (h : a ∈ V) : 0 < (V.filter (fun s => decide (keyP s = keyP a))).length := List.length_pos_iff.2 (List.ne_nil_of_mem (List.mem_filter.2 ⟨h, by simp⟩))
theorem filt_lt {V : List Slt} {a : Slt} (h : a ∈ V) : (V.filter (fun s => decide (keyP s ≠ keyP a))).length < V.length := by
  have h1 := filt_pos h
  have h2 := filt_sum (V := V) (k := keyP a)
  omega
theorem numL_app : ∀ (g h : List Slt) (n : Int), numL (g ++ h) n = numL g n ++ numL h (n + g.length)
  | [], h, n => by simp [numL]
  | s :: g, h, n => by
    rw [List.cons_append, numL, numL, numL_app g h (n + 1), List.length_cons, List.cons_append, show n + 1 + (g.length : Int) = n + ((g.length + 1 : Nat) : Int) by omega]
theorem numL_take {G : List Slt} {i : Nat} {s : Slt} {n : Int} (h : G[i]? = some s) : numL (G.take (i + 1)) n = numL (G.take i) n ++ [numd s (n + (i : Int))] := by
  have hl := (List.getElem?_eq_some_iff.1 h).1
  rw [take_succ h, numL_app, List.length_take, Nat.min_eq_left (by omega)]
  rfl
end Go.Proofs.Qxb6500777a
