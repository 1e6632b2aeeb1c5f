import Derived.Test.Qxb6500777aNoI
import Derived.Test.Qxb6500777aEvW
import Derived.Test.Qxb6500777aFsd
import Derived.Test.Qxb6500777aObs
import Derived.Deep.AppendLies
namespace Go.Proofs.Qxb6500777a
open Go.RowKit

theorem new_cn4 (w : World) : CN (w.alloc (.cells #[.int .i64 0, .int .i64 0, .int .i64 0, .int .i64 0] 53)) w.heap.size (fun _ => 0) := by
  refine ⟨fun i hi => ?_, fun j => by simp [go_sem]⟩
  rcases (by omega : i = 0 ∨ i = 1 ∨ i = 2 ∨ i = 3) with rfl | rfl | rfl | rfl <;> simp [go_sem]
theorem CN.keep4 {w w' : World} {x : Nat} {f : Nat → Int} (h : CN w x f) {b lo n : Nat} (k : Fr b lo n w w') (hq : x ≠ b) : CN w' x f := ⟨fun i hi => k.ex.cell hq (h.c i hi), fun j => (k.ex.frozen hq h.lt).trans (h.f j)⟩
theorem CN.frs4 {w : World} {x : Nat} {f : Nat → Int} (h : CN w x f) {i : Nat} (hi : i < 4) (u : Int) : CN (w.setCell ⟨x, i, none⟩ (.int .i64 u)) x (upd f i u) ∧ Fr x 0 4 w (w.setCell ⟨x, i, none⟩ (.int .i64 u)) := ⟨h.set hi u, (Fr.refl _ _ _ _).set (by omega) (by omega) _⟩
theorem TRow.keep4 {w w' : World} {B : Nat} {v : Value} {L : List Trk} (h : TRow w B v L) {b lo n : Nat} (k : Fr b lo n w w') (hb : b < B) : TRow w' B v L := own_kept h k.ex (fun g hg e => by have := (h.lt g hg).1; omega)
def lkC (F : List Trk) (f : Trk) (i : Nat) : Nat := (F.take i).countP (fun g => decide (f = g))
theorem lkC_succ {F : List Trk} {f g : Trk} {i : Nat} (h : F[i]? = some g) : lkC F f (i + 1) = lkC F f i + if f = g then 1 else 0 := by
  unfold lkC
  rw [List.take_add_one, h, List.countP_append]
  by_cases e : f = g <;> simp [e]
theorem lkC_le (F : List Trk) (f : Trk) (i : Nat) : lkC F f i ≤ i := Nat.le_trans List.countP_le_length (by rw [List.length_take]; omega)
def bnC (F : List Trk) (j : Nat) : Nat := (F.take j).countP (fun f => decide (F.countP (fun g => decide (f = g)) ≤ 64))
theorem bnC_succ {F : List Trk} {f : Trk} {j n : Nat} (hn : F.length = n) (h : F[j]? = some f) : bnC F (j + 1) = bnC F j + if lkC F f n ≤ 64 then 1 else 0 := by
  unfold bnC lkC
  rw [List.take_add_one, h, List.countP_append, ← hn, List.take_length]
  by_cases e : F.countP (fun g => decide (f = g)) ≤ 64 <;> simp [e]
theorem bnC_le (F : List Trk) (j : Nat) : bnC F j ≤ j := Nat.le_trans List.countP_le_length (by rw [List.length_take]; omega)
theorem bnC_all {F : List Trk} {n : Nat} (hn : F.length = n) : bnC F n = bornP F := by unfold bnC bornP; rw [← hn, List.take_length]
theorem fL_len (best : Nat → Int) (W : Nat → Tgt) (T : Tbl) : ∀ n, (fL best W T n).length ≤ n
  | 0 => Nat.le_refl _
  | n + 1 => by
    have := fL_len best W T n
    rw [fL]
    split
    · rw [List.length_append]; simp; omega
    · omega
theorem fL_bare (best : Nat → Int) (W : Nat → Tgt) (T : Tbl) : ∀ n, ∀ f ∈ fL best W T n, f.num = 0 ∧ f.st = 0 ∧ f.ag = 0
  | 0, f, hf => by cases hf
  | n + 1, f, hf => by
    rw [fL] at hf
    split at hf
    · rcases List.mem_append.1 hf with h | h
      · exact fL_bare best W T n f h
      · rw [List.mem_singleton] at h; subst h; exact ⟨rfl, rfl, rfl⟩
    · exact fL_bare best W T n f hf
theorem wcell4 {w : World} {p : Nat} {W : Nat → Tgt} (h : WA w p W) {t : Nat} (ht : t < 112) : w.cell? ⟨p, t * 4, none⟩ = some (.int .i64 (W t).x) ∧ w.cell? ⟨p, t * 4 + 1, none⟩ = some (.int .i64 (W t).y) ∧ w.cell? ⟨p, t * 4 + 2, none⟩ = some (.int .i64 (W t).co) ∧ w.cell? ⟨p, t * 4 + 3, none⟩ = some (.int .i64 (W t).sp) :=
  ⟨h t ht 0 _ rfl, h t ht 1 _ rfl, h t ht 2 _ rfl, h t ht 3 _ rfl⟩

theorem z50 {w' : World} {B1 gu n1 tc i j x t : Nat} {L1 : List Trk} {u u2 : Trk} {N : Int} (h : TRow w' B1 (.slice (some ⟨gu, 0, none⟩) n1 tc) L1) (hn : n1 = L1.length) (h2 : L1[i]? = some u2) (h1 : L1[j]? = some u) (hx : w'.cell? ⟨x, t, none⟩ = some (.int .i64 N)) : w'.cell? ⟨gu, i * 7, none⟩ = some (.int .i64 u2.num) ∧ w'.cell? ⟨gu, i * 7 + 1, none⟩ = some (.int .i64 u2.x) ∧ w'.cell? ⟨gu, i * 7 + 2, none⟩ = some (.int .i64 u2.y) ∧ w'.cell? ⟨gu, i * 7 + 3, none⟩ = some (.int .i64 u2.co) ∧ w'.cell? ⟨gu, i * 7 + 4, none⟩ = some (.int .i64 u2.sp) ∧ w'.cell? ⟨gu, i * 7 + 5, none⟩ = some (.int .i64 u2.st) ∧ w'.cell? ⟨gu, i * 7 + 6, none⟩ = some (.int .i64 u2.ag) ∧ w'.cell? ⟨gu, j * 7 + 1, none⟩ = some (.int .i64 u.x) ∧ w'.cell? ⟨gu, j * 7 + 2, none⟩ = some (.int .i64 u.y) ∧ w'.cell? ⟨gu, j * 7 + 3, none⟩ = some (.int .i64 u.co) ∧ w'.cell? ⟨gu, j * 7 + 4, none⟩ = some (.int .i64 u.sp) ∧ w'.cell? ⟨gu, j * 7 + 5, none⟩ = some (.int .i64 u.st) ∧ w'.cell? ⟨gu, j * 7 + 6, none⟩ = some (.int .i64 u.ag) ∧ w'.cell? ⟨gu, j * 7, none⟩ = some (.int .i64 u.num) ∧ w'.cell? ⟨x, t, none⟩ = some (.int .i64 N) := by
  obtain ⟨g1, e, r1⟩ := h.get hn h1
  cases e
  obtain ⟨g2, e, r2⟩ := h.get hn h2
  cases e
  obtain ⟨v0, v1, v2, v3, v4, v5, v6⟩ := r1.tt
  obtain ⟨y0, y1, y2, y3, y4, y5, y6⟩ := r2.tt
  exact ⟨y0, y1, y2, y3, y4, y5, y6, v1, v2, v3, v4, v5, v6, v0, hx⟩
theorem z32 {w' : World} {gb j i : Nat} {f : Trk} (h0 : w'.cell? ⟨gb, j * 7, none⟩ = some (.int .i64 f.num)) (h1 : w'.cell? ⟨gb, j * 7 + 1, none⟩ = some (.int .i64 f.x)) (h2 : w'.cell? ⟨gb, j * 7 + 2, none⟩ = some (.int .i64 f.y)) (h3 : w'.cell? ⟨gb, j * 7 + 3, none⟩ = some (.int .i64 f.co)) (h4 : w'.cell? ⟨gb, j * 7 + 4, none⟩ = some (.int .i64 f.sp)) (h5 : w'.cell? ⟨gb, j * 7 + 5, none⟩ = some (.int .i64 f.st)) (h6 : w'.cell? ⟨gb, j * 7 + 6, none⟩ = some (.int .i64 f.ag)) (h7 : w'.cell? ⟨gb, i * 7, none⟩ = some (.int .i64 f.num)) (h8 : w'.cell? ⟨gb, i * 7 + 1, none⟩ = some (.int .i64 f.x)) (h9 : w'.cell? ⟨gb, i * 7 + 2, none⟩ = some (.int .i64 f.y)) (h10 : w'.cell? ⟨gb, i * 7 + 3, none⟩ = some (.int .i64 f.co)) (h11 : w'.cell? ⟨gb, i * 7 + 4, none⟩ = some (.int .i64 f.sp)) (h12 : w'.cell? ⟨gb, i * 7 + 5, none⟩ = some (.int .i64 f.st)) (h13 : w'.cell? ⟨gb, i * 7 + 6, none⟩ = some (.int .i64 f.ag)) : w'.cell? ⟨gb, j * 7, none⟩ = some (.int .i64 f.num) ∧ w'.cell? ⟨gb, j * 7 + 1, none⟩ = some (.int .i64 f.x) ∧ w'.cell? ⟨gb, j * 7 + 2, none⟩ = some (.int .i64 f.y) ∧ w'.cell? ⟨gb, j * 7 + 3, none⟩ = some (.int .i64 f.co) ∧ w'.cell? ⟨gb, j * 7 + 4, none⟩ = some (.int .i64 f.sp) ∧ w'.cell? ⟨gb, j * 7 + 5, none⟩ = some (.int .i64 f.st) ∧ w'.cell? ⟨gb, j * 7 + 6, none⟩ = some (.int .i64 f.ag) ∧ w'.cell? ⟨gb, i * 7, none⟩ = some (.int .i64 f.num) ∧ w'.cell? ⟨gb, i * 7 + 1, none⟩ = some (.int .i64 f.x) ∧ w'.cell? ⟨gb, i * 7 + 2, none⟩ = some (.int .i64 f.y) ∧ w'.cell? ⟨gb, i * 7 + 3, none⟩ = some (.int .i64 f.co) ∧ w'.cell? ⟨gb, i * 7 + 4, none⟩ = some (.int .i64 f.sp) ∧ w'.cell? ⟨gb, i * 7 + 5, none⟩ = some (.int .i64 f.st) ∧ w'.cell? ⟨gb, i * 7 + 6, none⟩ = some (.int .i64 f.ag) := ⟨h0, h1, h2, h3, h4, h5, h6, h7, h8, h9, h10, h11, h12, h13⟩

set_option linter.unusedSimpArgs false in
set_option maxRecDepth 100000 in
set_option maxHeartbeats 16000000 in
theorem numbersInOrder_walk (w : World) (a : Option Addr) (n cap : Nat) (f : Nat → Opn) (hn : n ≤ 9223372036854775807) (ho : OpsAt w a n f) :
    Calls Try.prog 7 #[.slice a n cap] w fun e w' => e = .returned (.bool true) ∧ Below w.heap.size w w' := by
  have HO := hide ho
  clear ho
  by_cases hsm : n ≤ 65536
  · go_enter Try.func7, Try.ntmps7
    go_wp2_with fail
    refine (small_any _ a n cap hn).mono ?_
    rintro e w' ⟨rfl, ew⟩
    rw [ew]
    have hd : decide (n ≤ 65536) = true := by simpa using hsm
    rw [hd]
    clear hd ew w'
    go_wp2_with fail
    refine (newW_any _).mono ?_
    rintro e wn1 ⟨rfl, h1, b1⟩
    obtain ⟨p, hp⟩ : ∃ x, w.heap.size = x := ⟨_, rfl⟩
    rw [hp] at h1 ⊢
    have hgep : w.heap.size ≤ p := by omega
    have hltp : p < wn1.heap.size := h1.lt
    have hsz1 := b1.size
    have Kw := hide h1
    have KB := hide b1
    clear h1 b1 hp
    go_wp2_with fail
    refine (newP_any _).mono ?_
    rintro e wn2 ⟨rfl, h1, b1⟩
    obtain ⟨q, hq⟩ : ∃ x, wn1.heap.size = x := ⟨_, rfl⟩
    rw [hq] at h1 ⊢
    have hgeq : wn1.heap.size ≤ q := by omega
    have hltq : q < wn2.heap.size := h1.lt
    have hsz2 := b1.size
    replace Kw := hide (Kw.out.below b1)
    have Kp := hide h1
    replace KB := hide (lec KB.out b1)
    clear h1 b1 hq
    go_wp2_with fail
    refine (newT_any _).mono ?_
    rintro e wn3 ⟨rfl, h1, b1⟩
    obtain ⟨m, hm⟩ : ∃ x, wn2.heap.size = x := ⟨_, rfl⟩
    rw [hm] at h1 ⊢
    have hgem : wn2.heap.size ≤ m := by omega
    have hltm : m < wn3.heap.size := h1.lt
    have hsz3 := b1.size
    replace Kw := hide (Kw.out.below b1)
    replace Kp := hide (Kp.out.below b1)
    have Kt := hide h1
    replace KB := hide (lec KB.out b1)
    clear h1 b1 hm
    go_wp2_with fail
    refine (newB_any _ m).mono ?_
    rintro e wn4 ⟨b, rfl, hbg, h1, b1⟩
    have hgeb : wn3.heap.size ≤ b := hbg
    have hltb : b < wn4.heap.size := h1.lt
    have hsz4 := b1.size
    replace Kw := hide (Kw.out.below b1)
    replace Kp := hide (Kp.out.below b1)
    replace Kt := hide (Kt.out.below b1)
    have Kb := hide h1
    replace KB := hide (lec KB.out b1)
    clear h1 b1 hbg
    have HL := hide (show LS w wn4 m p q b (fun _ => tgt0) (fun _ => 0) (fun _ => tbl0) 1 from ⟨Kt.out, Kw.out, Kp.out, Kb.out, ⟨fun _ _ => tbl0_ok, fun _ _ => Int.le_refl 1⟩, fun _ _ => tgt0_ok, fun _ => ⟨Int.le_refl 0, by show (0 : Int) ≤ 3; omega⟩, KB.out, by omega, by omega⟩)
    clear Kt Kw Kp Kb KB
    clear hgem hgep hgeq hgeb hltm hltp hltq hltb hsz1 hsz2 hsz3 hsz4
    obtain ⟨i0, hi0, hz0, hz1, hz2⟩ : ∃ i0, Try.prog.info? 51 = some i0 ∧ i0.zero = some (.agg #[.int .i64 0, .int .i64 0, .int .i64 0, .int .i64 0, .int .i64 0, .int .i64 0, .int .i64 0]) ∧ i0.size = 7 ∧ i0.bytes = 56 := ⟨_, rfl, rfl, rfl, rfl⟩
    have HI := hide (And.intro hi0 (And.intro hz0 (And.intro hz1 hz2)))
    clear hi0 hz0 hz1 hz2
    go_wp2
    go_loopw [6, 7, 8, 9, 10, 11, 12, 13, 14, 15, 16, 17, 18, 19, 20] (fun s6 _ _ _ _ _ _ _ _ _ _ _ _ _ _ wr => ∃ (k : Nat) (W : Nat → Tgt) (G : Nat → Int) (TT : Nat → Tbl), k ≤ n ∧ s6 = .int .i64 k ∧ LS w wr m p q b W G TT (1 + 112 * (k : Int))) (fun s6 _ _ _ _ _ _ _ _ _ _ _ _ _ _ _ => n - (intOf s6).toNat)
    case atStart => exact ⟨0, _, _, _, Nat.zero_le _, rfl, HL.out⟩
    case round =>
      clear HL
      obtain ⟨k, W, G, TT, hk, rfl, hl⟩ := hrel
      have HL := hide hl
      clear hl
      by_cases hlt : k < n
      · have hlti : (k : Int) < (n : Int) := by omega
        obtain ⟨sb, off, rfl, hok, -⟩ := HO.out.at hlt
        have HC := hide (show ∀ wx, Below w.heap.size w wx → _ from fun wx hb => (HO.out.below hb).at hlt)
        obtain ⟨op, hop⟩ : ∃ op, f k = op := ⟨_, rfl⟩
        rw [hop] at hok HC
        have HOK := hide hok
        clear hok hop
        obtain ⟨_, _, e, -, c0, c1, c2, c3, c4, c5, c6⟩ := HC.out _ HL.out.bel
        cases e
        go_wp2_with fail
        refine (stepW_any _ p W HL.out.wr op HOK.out).mono ?_
        rintro e w2 ⟨rfl, h1, h2⟩
        have HL2 := hide (HL.out.world h2 h1 (wst_ok op HL.out.wo))
        clear c0 c1 c2 c3 c4 c5 c6 h1 h2 HL
        obtain ⟨W', hW'⟩ : ∃ W', wstP W op = W' := ⟨_, rfl⟩
        rw [hW'] at HL2
        clear hW'
        obtain ⟨_, _, e, -, c0, c1, c2, c3, c4, c5, c6⟩ := HC.out _ HL2.out.bel
        cases e
        have HL0 := hide (show m < w2.heap.size ∧ p < w2.heap.size ∧ q < w2.heap.size ∧ b < w2.heap.size ∧ w.heap.size ≤ w2.heap.size from ⟨HL2.out.mt.lt, HL2.out.wr.lt, HL2.out.pa.lt, HL2.out.bd.lt, HL2.out.bel.size⟩)
        by_cases hkd : op.kd = 2
        · have hkb : (op.kd == 2) = true := by simp [hkd]
          clear hkd
          go_wp2_with fail
          refine (list_any _ q G HL2.out.pa).mono ?_
          rintro e w3 ⟨da, dc, rfl, hdr, hb⟩
          clear c0 c1 c2 c3 c4 c5 c6
          replace HL2 := hide (HL2.out.below hb)
          have HDA := hide hdr.da.1
          have hdl : (lsN G 1792).length ≤ 1792 := lsN_len G 1792
          have HDQ0 := hide (show ∀ g off, da = some ⟨g, off, none⟩ → g < w3.heap.size ∧ g ≠ b from fun g off e => ⟨(hdr.da.2 g off e).2, by have := (hdr.da.2 g off e).1; have := HL0.out.2.2.2.1; omega⟩)
          clear hdr hb HL0
          obtain ⟨D, hD⟩ : ∃ D, lsN G 1792 = D := ⟨_, rfl⟩
          rw [hD] at HDA hdl ⊢
          clear hD
          have HL0 := hide (show m < w3.heap.size ∧ p < w3.heap.size ∧ q < w3.heap.size ∧ b < w3.heap.size ∧ w.heap.size ≤ w3.heap.size from ⟨HL2.out.mt.lt, HL2.out.wr.lt, HL2.out.pa.lt, HL2.out.bd.lt, HL2.out.bel.size⟩)
          go_upto_region 14 with fail
          have HCX := hide ((new_cn4 w3).below (be1 (w3.alloc (.cells #[.int .i64 0, .int .i64 0, .int .i64 0, .int .i64 0] 53)) (.cells #[.int .i64 0, .int .i64 0, .int .i64 0, .int .i64 0] 53)))
          have HCY := hide (new_cn4 (w3.alloc (.cells #[.int .i64 0, .int .i64 0, .int .i64 0, .int .i64 0] 53)))
          have hz : (w3.alloc (.cells #[.int .i64 0, .int .i64 0, .int .i64 0, .int .i64 0] 53)).heap.size = w3.heap.size + 1 := by simp
          have hz2 : ((w3.alloc (.cells #[.int .i64 0, .int .i64 0, .int .i64 0, .int .i64 0] 53)).alloc (.cells #[.int .i64 0, .int .i64 0, .int .i64 0, .int .i64 0] 53)).heap.size = w3.heap.size + 1 + 1 := by simp
          rw [hz] at HCY
          replace HL := hide (HL2.out.below (be2 w3 (.cells #[.int .i64 0, .int .i64 0, .int .i64 0, .int .i64 0] 53) (.cells #[.int .i64 0, .int .i64 0, .int .i64 0, .int .i64 0] 53)))
          replace HDA := hide (HDA.out.below (be2 w3 (.cells #[.int .i64 0, .int .i64 0, .int .i64 0, .int .i64 0] 53) (.cells #[.int .i64 0, .int .i64 0, .int .i64 0, .int .i64 0] 53)))
          have HBG := hide (show w3.heap.size + 1 + 1 ≤ ((w3.alloc (.cells #[.int .i64 0, .int .i64 0, .int .i64 0, .int .i64 0] 53)).alloc (.cells #[.int .i64 0, .int .i64 0, .int .i64 0, .int .i64 0] 53)).heap.size by omega)
          clear hz hz2 HL2
          generalize (w3.alloc (.cells #[.int .i64 0, .int .i64 0, .int .i64 0, .int .i64 0] 53)).alloc (.cells #[.int .i64 0, .int .i64 0, .int .i64 0, .int .i64 0] 53) = w4 at *
          obtain ⟨B, hB⟩ : ∃ B, w3.heap.size + 1 + 1 = B := ⟨_, rfl⟩
          obtain ⟨y, hy⟩ : ∃ y, w3.heap.size + 1 = y := ⟨_, rfl⟩
          obtain ⟨x, hx⟩ : ∃ x, w3.heap.size = x := ⟨_, rfl⟩
          have HXN := hide (show m ≠ x ∧ p ≠ x ∧ q ≠ x ∧ b ≠ x ∧ w.heap.size ≤ x by have := HL0.out; omega)
          have HYN := hide (show m ≠ y ∧ p ≠ y ∧ q ≠ y ∧ b ≠ y ∧ w.heap.size ≤ y by have := HL0.out; omega)
          have HXY := hide (show x ≠ y ∧ x < B ∧ y < B ∧ b < B by have := HL0.out; omega)
          have HDQ := hide (show ∀ g off, da = some ⟨g, off, none⟩ → g ≠ b ∧ g ≠ x ∧ g ≠ y ∧ g < B from fun g off e => by have := HDQ0.out g off e; omega)
          rw [hB] at HBG
          rw [hy] at HCY ⊢
          rw [hx] at HCX ⊢
          clear hB hy hx HDQ0 HL0
          go_wp2
          go_loopw [10, 11, 12, 13, 14, 15, 16, 17] (fun s10 _ _ _ _ _ _ _ wy => ∃ t : Nat, t ≤ 4 ∧ s10 = .int .i64 t ∧ LS w wy m p q b W' G TT (1 + 112 * (k : Int)) ∧ CN wy x (fun i => if i < t then (TT i).next - 1 else 0) ∧ CN wy y (fun i => if i < t then ((bornP (fL (fuseP D (i : Int)) W' (TT i) 112) : Nat) : Int) else 0) ∧ DA wy da D ∧ B ≤ wy.heap.size) (fun s10 _ _ _ _ _ _ _ _ => 4 - (intOf s10).toNat)
          case atStart => exact ⟨0, by omega, rfl, HL.out, HCX.out.congr (fun i _ => by rw [if_neg (by omega)]), HCY.out.congr (fun i _ => by rw [if_neg (by omega)]), HDA.out, HBG.out⟩
          case round =>
            clear HL HCX HCY HDA HBG
            obtain ⟨t, ht, rfl, hl, hcx, hcy, hda, hbg⟩ := hrel
            have HL := hide hl
            have HCX := hide hcx
            have HCY := hide hcy
            have HDA := hide hda
            have HBG := hide hbg
            clear hl hcx hcy hda hbg
            by_cases ht4 : t < 4
            · have ht4i : (t : Int) < 4 := by omega
              have hnx := (HL.out.ti.tk t ht4).inv.nx
              have HTW := hide (show ∀ s, s < 112 → (TT t).wh s = -1 ∨ ∃ k : Nat, k < 64 ∧ (TT t).wh s = k from fun s hs => by
                rcases (HL.out.ti.tk t ht4).inv.wh2 s hs with z | ⟨k, z1, z2, _⟩
                · exact .inl z
                · exact .inr ⟨k, z1, z2⟩)
              go_wp2_with fail
              refine (issued_any _ b t ht4 (TT t) (HL.out.bd.ta t ht4) ⟨by omega, hnx.2⟩).mono ?_
              rintro e w5 ⟨rfl, rfl⟩
              have c1 := HCX.out.c t ht4
              have f1 := HCX.out.f t
              have HS := hide (HCX.out.frs4 ht4 ((TT t).next - 1))
              replace HL := hide (HL.out.other HS.out.2 HXN.out.1 HXN.out.2.1 HXN.out.2.2.1 HXN.out.2.2.2.1 HXN.out.2.2.2.2)
              replace HCY := hide (HCY.out.keep4 HS.out.2 (Ne.symm HXY.out.1))
              replace HDA := hide (HDA.out.keep HS.out.2.ex (fun g off e => (HDQ.out g off e).2.1))
              replace HBG := hide (Nat.le_trans HBG.out HS.out.2.ex.size)
              clear hnx
              go_upto_region 18 with fail
              have HCX2 := hide (HS.out.1.congr (g := fun i => if i < t + 1 then (TT i).next - 1 else 0) (fun i hi => by
                by_cases e : i = t
                · subst e; rw [upd_same, if_pos (by omega)]
                · rw [upd_ne _ _ e]
                  by_cases z : i < t
                  · rw [if_pos z, if_pos (by omega)]
                  · rw [if_neg z, if_neg (by omega)]))
              clear HCX HS c1 f1
              have HCX := HCX2
              clear HCX2
              generalize World.setCell _ ⟨x, t, none⟩ (.int .i64 ((TT t).next - 1)) = w6 at *
              have HTA := hide (show ∀ wx, LS w wx m p q b W' G TT (1 + 112 * (k : Int)) → TA wx b (1 + t * 754) (TT t) from fun wx h => h.bd.ta t ht4)
              have HCYL := hide HCY.out.lt
              have HBL6 := hide HL.out.bd.lt
              obtain ⟨T, hT⟩ : ∃ T, TT t = T := ⟨_, rfl⟩
              rw [hT] at HTA HTW
              have HTT := hide hT
              clear hT
              go_wp2
              go_loopw [11, 12, 13, 14] (fun s11 s12 _ _ wy => ∃ (s : Nat) (a : Option Addr) (c : Nat), s ≤ 112 ∧ s12 = .int .i64 s ∧ s11 = .slice a (fL (fuseP D (t : Int)) W' T s).length c ∧ TRow wy w6.heap.size (.slice a (fL (fuseP D (t : Int)) W' T s).length c) (fL (fuseP D (t : Int)) W' T s) ∧ Below w6.heap.size w6 wy) (fun _ s12 _ _ _ => 112 - (intOf s12).toNat)
              case atStart => exact ⟨0, none, 0, by omega, rfl, rfl, World.ownsRow_nil _ _ _ _, Below.refl _ _⟩
              case round =>
                obtain ⟨s, a, c, hs, rfl, rfl, hr, hb⟩ := hrel
                have HR := hide hr
                have HE := hide hb
                clear hr hb
                by_cases hs112 : s < 112
                · have hs112i : (s : Int) < 112 := by omega
                  have hs0 : decide ((s : Int) < 0) = false := by simp
                  have HX := hide (show fL (fuseP D (t : Int)) W' T (s + 1) = if T.wh s = -1 ∧ 0 < fuseP D (t : Int) s then fL (fuseP D (t : Int)) W' T s ++ [lookP trk0 (W' s) (fuseP D (t : Int) s)] else fL (fuseP D (t : Int)) W' T s from rfl)
                  have hLl := fL_len (fuseP D (t : Int)) W' T s
                  obtain ⟨L, hL⟩ : ∃ L, fL (fuseP D (t : Int)) W' T s = L := ⟨_, rfl⟩
                  rw [hL] at HX HR hLl ⊢
                  clear hL
                  go_wp2_with fail
                  refine (trackOf_any _ b t ht4 T (HTA.out _ (HL.out.below HE.out)) s hs112 (HTW.out s hs112)).mono ?_
                  rintro e w7 ⟨tr, fo, rfl, htr, hb⟩
                  replace HR := hide (HR.out.below hb)
                  replace HE := hide (lec HE.out hb)
                  clear hb
                  go_upto_region 23 with fail
                  replace HR := hide (HR.out.below (be1 w7 (.cells #[.int .i64 tr.num, .int .i64 tr.x, .int .i64 tr.y, .int .i64 tr.co, .int .i64 tr.sp, .int .i64 tr.st, .int .i64 tr.ag] 51)))
                  replace HE := hide (lec HE.out (be1 w7 (.cells #[.int .i64 tr.num, .int .i64 tr.x, .int .i64 tr.y, .int .i64 tr.co, .int .i64 tr.sp, .int .i64 tr.st, .int .i64 tr.ag] 51)))
                  generalize w7.alloc (.cells #[.int .i64 tr.num, .int .i64 tr.x, .int .i64 tr.y, .int .i64 tr.co, .int .i64 tr.sp, .int .i64 tr.st, .int .i64 tr.ag] 51) = w8 at *
                  cases htr with
                  | some kk h1 h2 =>
                    have HX1 := hide (show fL (fuseP D (t : Int)) W' T (s + 1) = L by rw [HX.out, if_neg (fun z => by have := z.1; omega)])
                    clear HX h1 h2
                    go_wp2
                    go_roundw
                    case rel => exact ⟨s + 1, a, c, by omega, by simp, by rw [HX1.out], by rw [HX1.out]; exact HR.out, HE.out⟩
                    case measure => simp [intOf]; omega
                  | none h1 =>
                    have HWH := hide h1
                    clear h1
                    go_wp2_with fail
                    refine (fused_any _ da D.length dc D (HDA.out.below HE.out) rfl (by omega) (t : Int) s hs112).mono ?_
                    rintro e w9 ⟨rfl, rfl⟩
                    have cf := fun w h => hide (fused_any w da D.length dc D h rfl (by omega) (t : Int) s hs112)
                    have hgr := fuse_rng D (t : Int) s
                    obtain ⟨g, hg⟩ : ∃ g, fuseP D (t : Int) s = g := ⟨_, rfl⟩
                    rw [hg] at HX cf hgr ⊢
                    clear hg
                    by_cases hg0 : 0 < g
                    · have hgd : decide (0 < g) = true := by simp; omega
                      have cs := fun w => hide (seen_any w (W' s) (HL.out.wo s hs112) g)
                      obtain ⟨A, hA⟩ : ∃ A, lookP trk0 (W' s) g = A := ⟨_, rfl⟩
                      rw [hA] at cs HX
                      have HX1 := hide (show fL (fuseP D (t : Int)) W' T (s + 1) = L ++ [A] by rw [HX.out, if_pos ⟨HWH.out, hg0⟩])
                      clear hA HX HWH hgr
                      go_upto_region 24 with fail
                      have zS := wcell4 (HL.out.below HE.out).wr.wa hs112
                      clear hgd hg0
                      refine wp_region_held_drew (S := fun w' => w'.cell? ⟨p, s * 4, none⟩ = some (.int .i64 (W' s).x) ∧ w'.cell? ⟨p, s * 4 + 1, none⟩ = some (.int .i64 (W' s).y) ∧ w'.cell? ⟨p, s * 4 + 2, none⟩ = some (.int .i64 (W' s).co) ∧ w'.cell? ⟨p, s * 4 + 3, none⟩ = some (.int .i64 (W' s).sp)) (by kernel_rfl) zS (fun hHeld => ?_)
                      refine wpAnyH_take (i := 0) (v := ?_) rfl (by kernel_rfl) (by kernel_rfl) (by kernel_rfl) (fun _ _ _ h => h) (Or.inl ⟨by rfl, ?_⟩) (by assumption) ?_
                      rotate_left
                      · (intro w hSw; (try dsimp only at hSw); go_simp; try (with_reducible rfl))
                      try simp only [Act.put, List.getElem_toArray, List.getElem_cons_zero, List.getElem_cons_succ, List.setIfInBounds_toArray, List.set_cons_zero, List.set_cons_succ]
                      refine wpAnyH_take (i := 1) (v := ?_) rfl (by kernel_rfl) (by kernel_rfl) (by kernel_rfl) (fun _ _ _ h => h) (Or.inl ⟨by rfl, ?_⟩) (by assumption) ?_
                      rotate_left
                      · (intro w hSw; (try dsimp only at hSw); go_simp; try (with_reducible rfl))
                      try simp only [Act.put, List.getElem_toArray, List.getElem_cons_zero, List.getElem_cons_succ, List.setIfInBounds_toArray, List.set_cons_zero, List.set_cons_succ]
                      refine wpAnyH_take (i := 2) (v := ?_) rfl (by kernel_rfl) (by kernel_rfl) (by kernel_rfl) (fun _ _ _ h => h) (Or.inl ⟨by rfl, ?_⟩) (by assumption) ?_
                      rotate_left
                      · (intro w hSw; (try dsimp only at hSw); go_simp; try (with_reducible rfl))
                      try simp only [Act.put, List.getElem_toArray, List.getElem_cons_zero, List.getElem_cons_succ, List.setIfInBounds_toArray, List.set_cons_zero, List.set_cons_succ]
                      refine wpAnyH_take (i := 3) (v := ?_) rfl (by kernel_rfl) (by kernel_rfl) (by kernel_rfl) (fun _ _ _ h => h) (Or.inl ⟨by rfl, ?_⟩) (by assumption) ?_
                      rotate_left
                      · (intro w hSw; (try dsimp only at hSw); go_simp; try (with_reducible rfl))
                      try simp only [Act.put, List.getElem_toArray, List.getElem_cons_zero, List.getElem_cons_succ, List.setIfInBounds_toArray, List.set_cons_zero, List.set_cons_succ]
                      refine wpAnyH_take (i := 4) (v := ?_) rfl (by kernel_rfl) (by kernel_rfl) (by kernel_rfl) (fun _ _ _ h => h) (Or.inl ⟨by rfl, ?_⟩) (by assumption) ?_
                      rotate_left
                      · (intro w hSw; (try dsimp only at hSw); go_simp; try (with_reducible rfl))
                      try simp only [Act.put, List.getElem_toArray, List.getElem_cons_zero, List.getElem_cons_succ, List.setIfInBounds_toArray, List.set_cons_zero, List.set_cons_succ]
                      refine wpAnyH_take (i := 5) (v := ?_) rfl (by kernel_rfl) (by kernel_rfl) (by kernel_rfl) (fun _ _ _ h => h) (Or.inl ⟨by rfl, ?_⟩) (by assumption) ?_
                      rotate_left
                      · (intro w hSw; (try dsimp only at hSw); go_simp; try (with_reducible rfl))
                      try simp only [Act.put, List.getElem_toArray, List.getElem_cons_zero, List.getElem_cons_succ, List.setIfInBounds_toArray, List.set_cons_zero, List.set_cons_succ]
                      refine wpAnyH_take (i := 6) (v := ?_) rfl (by kernel_rfl) (by kernel_rfl) (by kernel_rfl) (fun _ _ _ h => h) (Or.inl ⟨by rfl, ?_⟩) (by assumption) ?_
                      rotate_left
                      · (intro w hSw; (try dsimp only at hSw); go_simp; try (with_reducible rfl))
                      try simp only [Act.put, List.getElem_toArray, List.getElem_cons_zero, List.getElem_cons_succ, List.setIfInBounds_toArray, List.set_cons_zero, List.set_cons_succ]
                      refine wpAnyH_take (i := 7) (v := ?_) rfl (by kernel_rfl) (by kernel_rfl) (by kernel_rfl) (fun _ _ _ h => h) (Or.inl ⟨by rfl, ?_⟩) (by assumption) ?_
                      rotate_left
                      · (intro w hSw; (try dsimp only at hSw); go_simp; try (with_reducible rfl))
                      try simp only [Act.put, List.getElem_toArray, List.getElem_cons_zero, List.getElem_cons_succ, List.setIfInBounds_toArray, List.set_cons_zero, List.set_cons_succ]
                      refine wpAnyH_take (i := 8) (v := ?_) rfl (by kernel_rfl) (by kernel_rfl) (by kernel_rfl) (fun _ _ _ h => h) (Or.inl ⟨by rfl, ?_⟩) (by assumption) ?_
                      rotate_left
                      · (intro w hSw; (try dsimp only at hSw); go_simp; try (with_reducible rfl))
                      try simp only [Act.put, List.getElem_toArray, List.getElem_cons_zero, List.getElem_cons_succ, List.setIfInBounds_toArray, List.set_cons_zero, List.set_cons_succ]
                      refine wpAnyH_take (i := 9) (v := ?_) rfl (by kernel_rfl) (by kernel_rfl) (by kernel_rfl) (fun _ _ _ h => h) (Or.inl ⟨by rfl, ?_⟩) (by assumption) ?_
                      rotate_left
                      · (intro w hSw; (try dsimp only at hSw); go_simp; try (with_reducible rfl))
                      try simp only [Act.put, List.getElem_toArray, List.getElem_cons_zero, List.getElem_cons_succ, List.setIfInBounds_toArray, List.set_cons_zero, List.set_cons_succ]
                      refine wpAnyH_ready (rs := [10]) (by kernel_rfl) (by simp) ?_
                      refine (AllReadyH.cons rfl (fun K hK => ?_) AllReadyH.nil)
                      · refine step_call rfl 31 #[.slice da D.length dc, .int .i64 t, .int .i64 s] (by simp [go_sem]) (cf _ (HDA.out.below (lec HE.out (Below.refl _ _).drew))).out ?_
                        rintro e w8 ⟨rfl, rfl⟩
                        refine ⟨_, rfl, ?_⟩
                        refine hK.out _ _ ?_ (fun hHeld => ?_)
                        · (first | with_reducible exact zS | with_reducible exact zS9 | with_reducible exact zSA | with_reducible exact zSG | exact zS | exact zSA)
                        clear hK K
                        try simp only [Act.put, List.getElem_toArray, List.getElem_cons_zero, List.getElem_cons_succ, List.setIfInBounds_toArray, List.set_cons_zero, List.set_cons_succ]
                        refine wpAnyH_ready (rs := [11]) (by kernel_rfl) (by simp) ?_
                        refine (AllReadyH.cons rfl (fun K hK => ?_) AllReadyH.nil)
                        · refine step_call rfl 32 #[.agg #[.int .i64 (W' s).x, .int .i64 (W' s).y, .int .i64 (W' s).co, .int .i64 (W' s).sp], .int .i64 g] (by simp [go_sem]) (cs _).out ?_
                          rintro e w9 ⟨rfl, b9⟩
                          replace b9 := of_drew b9
                          have HR9 := hide (HR.out.below b9)
                          have HE9 := hide (lec HE.out b9)
                          have zS9 := wcell4 (HL.out.below HE9.out).wr.wa hs112
                          clear b9
                          have bA := be1 w9 (.cells #[.int .i64 A.num, .int .i64 A.x, .int .i64 A.y, .int .i64 A.co, .int .i64 A.sp, .int .i64 A.st, .int .i64 A.ag] 51)
                          have HRA := hide (HR9.out.below bA)
                          have HEA := hide (lec HE9.out bA)
                          have zSA := wcell4 (HL.out.below HEA.out).wr.wa hs112
                          clear bA
                          refine ⟨_, rfl, ?_⟩
                          refine hK.out _ _ ?_ (fun hHeld => ?_)
                          · (first | with_reducible exact zS | with_reducible exact zS9 | with_reducible exact zSA | with_reducible exact zSG | exact zS | exact zSA)
                          clear hK K
                          try simp only [Act.put, List.getElem_toArray, List.getElem_cons_zero, List.getElem_cons_succ, List.setIfInBounds_toArray, List.set_cons_zero, List.set_cons_succ]
                          refine wpAnyH_ready (rs := [12]) (by kernel_rfl) (by simp) ?_
                          refine (AllReadyH.cons rfl (fun K hK => ?_) AllReadyH.nil)
                          · go_simp
                            refine hK.out _ _ ?_ (fun hHeld => ?_)
                            · (first | with_reducible exact zS | with_reducible exact zS9 | with_reducible exact zSA | with_reducible exact zSG | exact zS | exact zSA)
                            clear hK K
                            try simp only [Act.put, List.getElem_toArray, List.getElem_cons_zero, List.getElem_cons_succ, List.setIfInBounds_toArray, List.set_cons_zero, List.set_cons_succ]
                            refine wpAnyH_ready (rs := [13]) (by kernel_rfl) (by simp) ?_
                            refine (AllReadyH.cons rfl (fun K hK => ?_) AllReadyH.nil)
                            · refine step_append_lies _ rfl (.tmp 77) (.tmp 89) 42 rfl w6.heap.size 51 i0 _ 7 56 Try.underlying42 HI.out.1 HI.out.2.1 HI.out.2.2.1 HI.out.2.2.2 rfl (by decide) (.slice a L.length c) L.length (L.flatMap Trk.vals) rfl HRA.out ⟨w9.heap.size, 0, none⟩ 1 1 (Trk.vals A) rfl rfl (fun j u hj => new_cells w9 (Trk.vals A) 51 j u hj) (tvals_one A) (by decide) (by unfold maxLen; omega) (by omega) HEA.out.size _ rfl ?_
                              intro g2 cap2 w2 hr hg hat hlt2
                              have HEG := hide (bel_grownT HEA.out HRA.out hg)
                              have HRG := hide hr
                              have zSG := wcell4 (HL.out.below HEG.out).wr.wa hs112
                              clear hr hg hat hlt2
                              refine hK.out _ _ ?_ (fun hHeld => ?_)
                              · (first | with_reducible exact zS | with_reducible exact zS9 | with_reducible exact zSA | with_reducible exact zSG | exact zS | exact zSA)
                              clear hK K
                              try simp only [Act.put, List.getElem_toArray, List.getElem_cons_zero, List.getElem_cons_succ, List.setIfInBounds_toArray, List.set_cons_zero, List.set_cons_succ]
                              refine wpAnyH_take (i := 14) (v := ?_) rfl (by kernel_rfl) (by kernel_rfl) (by kernel_rfl) (fun _ _ _ h => h) (Or.inl ⟨by rfl, ?_⟩) (by assumption) ?_
                              rotate_left
                              · (intro w hSw; (try dsimp only at hSw); go_simp; try (with_reducible rfl))
                              try simp only [Act.put, List.getElem_toArray, List.getElem_cons_zero, List.getElem_cons_succ, List.setIfInBounds_toArray, List.set_cons_zero, List.set_cons_succ]
                              refine wpAnyH_done (by kernel_rfl) ?_ _
                              clear zS zS9 zSA zSG HRA HEA HR9 HE9 HR HE cf cs
                              go_wp2
                              go_roundw
                              case rel =>
                                refine ⟨s + 1, some ⟨g2, 0, none⟩, cap2, by omega, by simp, ?_, ?_, HEG.out⟩
                                · rw [HX1.out]; simp
                                · rw [HX1.out]; have := HRG.out; show World.ownsRow _ _ _ _ _ _ _; simpa using this
                              case measure => simp [intOf]; omega
                    · have hgd : decide (0 < g) = false := by simp; omega
                      have HX1 := hide (show fL (fuseP D (t : Int)) W' T (s + 1) = L by rw [HX.out, if_neg (fun z => hg0 z.2)])
                      clear HX cf hgr hg0
                      go_wp2
                      go_roundw
                      case rel => exact ⟨s + 1, a, c, by omega, by simp, by rw [HX1.out], by rw [HX1.out]; exact HR.out, HE.out⟩
                      case measure => simp [intOf]; omega
                · obtain rfl : s = 112 := by omega
                  rw [show ((112 : Nat) : Int) = 112 from rfl]
                  go_upto_region 25 with fail
                  as_aux_lemma =>
                    replace HL := hide (HL.out.below HE.out)
                    replace HCX := hide (HCX.out.below HE.out)
                    replace HCY := hide (HCY.out.below HE.out)
                    replace HDA := hide (HDA.out.below HE.out)
                    replace HBG := hide (Nat.le_trans HBG.out HE.out.size)
                    have HB1 := hide (show y < w6.heap.size ∧ b < w6.heap.size from ⟨HCYL.out, HBL6.out⟩)
                    have HBR := hide (fL_bare (fuseP D (t : Int)) W' T 112)
                    have hFl := fL_len (fuseP D (t : Int)) W' T 112
                    obtain ⟨F, hF⟩ : ∃ F, fL (fuseP D (t : Int)) W' T 112 = F := ⟨_, rfl⟩
                    rw [hF] at HR HBR hFl ⊢
                    have HFE := hide hF
                    clear hF
                    obtain ⟨nF, hnF⟩ : ∃ n, F.length = n := ⟨_, rfl⟩
                    rw [hnF] at HR hFl ⊢
                    have HNF := hide hnF
                    clear hnF
                    obtain ⟨B1, hB1⟩ : ∃ B, w6.heap.size = B := ⟨_, rfl⟩
                    rw [hB1] at HR HB1
                    clear hB1 HE HTW
                    replace HCY := hide (HCY.out.congr (g := upd (fun i => if i < t then ((bornP (fL (fuseP D (i : Int)) W' (TT i) 112) : Nat) : Int) else 0) t (bnC F 0 : Nat)) (fun i hi => by
                      by_cases e : i = t
                      · subst e; rw [upd_same, if_neg (by omega)]; simp [bnC]
                      · rw [upd_ne _ _ e]))
                    go_wp2
                    go_loopw [15, 16, 17] (fun s15 _ _ wy => ∃ j : Nat, j ≤ nF ∧ s15 = .int .i64 j ∧ LS w wy m p q b W' G TT (1 + 112 * (k : Int)) ∧ CN wy x (fun i => if i < t + 1 then (TT i).next - 1 else 0) ∧ CN wy y (upd (fun i => if i < t then ((bornP (fL (fuseP D (i : Int)) W' (TT i) 112) : Nat) : Int) else 0) t (bnC F j : Nat)) ∧ DA wy da D ∧ TRow wy B1 (.slice a nF c) F ∧ B ≤ wy.heap.size) (fun s15 _ _ _ => nF - (intOf s15).toNat)
                    case atStart => exact ⟨0, by omega, rfl, HL.out, HCX.out, HCY.out, HDA.out, HR.out, HBG.out⟩
                    case round =>
                      clear HL HCX HCY HDA HR HBG
                      obtain ⟨j, hj, rfl, hl, hcx, hcy, hda, hr, hbg⟩ := hrel
                      have HL := hide hl
                      have HCX := hide hcx
                      have HCY := hide hcy
                      have HDA := hide hda
                      have HR := hide hr
                      have HBG := hide hbg
                      clear hl hcx hcy hda hr hbg
                      by_cases hjn : j < nF
                      · have hjni : (j : Int) < (nF : Int) := by omega
                        have hj0 : decide ((j : Int) < 0) = false := by simp
                        obtain ⟨f, hf⟩ : ∃ f, F[j]? = some f := ⟨_, List.getElem?_eq_getElem (by have := HNF.out; omega)⟩
                        have HBN := hide (bnC_succ HNF.out hf)
                        have hbl := bnC_le F j
                        have HFB := hide (HBR.out f (List.mem_of_getElem? hf))
                        have HFJ := hide hf
                        clear hf
                        go_wp2
                        go_loopw [16, 17] (fun s16 s17 wy => ∃ i : Nat, i ≤ nF ∧ s17 = .int .i64 i ∧ s16 = .int .i64 (lkC F f i : Nat) ∧ Below wr.heap.size wr wy) (fun _ s17 _ => nF - (intOf s17).toNat)
                        case atStart => exact ⟨0, by omega, rfl, rfl, Below.refl _ _⟩
                        case round =>
                          obtain ⟨i, hi, rfl, rfl, hbe⟩ := hrel
                          have HBE := hide hbe
                          clear hbe
                          by_cases hin : i < nF
                          · have hini : (i : Int) < (nF : Int) := by omega
                            have hi0' : decide ((i : Int) < 0) = false := by simp
                            obtain ⟨g, hg⟩ : ∃ g, F[i]? = some g := ⟨_, List.getElem?_eq_getElem (by have := HNF.out; omega)⟩
                            have HI1 := hide (lkC_succ (f := f) hg)
                            have HGB := hide (HBR.out g (List.mem_of_getElem? hg))
                            have hcl := lkC_le F f i
                            obtain ⟨cI, hcI⟩ : ∃ x, lkC F f i = x := ⟨_, rfl⟩
                            rw [hcI] at HI1 hcl ⊢
                            clear hcI
                            have hwc : IntKind.i64.wrap ((cI : Int) + 1) = (cI : Int) + 1 := by rw [IntKind.wrap_i64]; omega
                            obtain ⟨gb, e, hra⟩ := (HR.out.below HBE.out).get HNF.out.symm HFJ.out
                            obtain ⟨d0, d1, d2, d3, d4, d5, d6⟩ := hra.tt
                            subst e
                            obtain ⟨gb2, e, hrb⟩ := (HR.out.below HBE.out).get HNF.out.symm hg
                            cases e
                            obtain ⟨e0, e1, e2, e3, e4, e5, e6⟩ := hrb.tt
                            clear hra hrb hg
                            by_cases hfg : f = g
                            · subst hfg
                              replace HI1 := hide (show lkC F f (i + 1) = cI + 1 by rw [HI1.out, if_pos rfl])
                              clear HGB
                              go_upto_region 32 with fail
                              go_quiet (fail)
                              clear d0 d1 d2 d3 d4 d5 d6 e0 e1 e2 e3 e4 e5 e6
                              go_wp2
                              go_roundw
                              case rel => exact ⟨i + 1, by omega, by simp, by rw [HI1.out]; simp, (lec HBE.out (belN _ _))⟩
                              case measure => simp [intOf]; omega
                            · have HI2 := hide (show lkC F f (i + 1) = cI by rw [HI1.out, if_neg hfg]; rfl)
                              clear HI1
                              have HI1 := HI2
                              clear HI2
                              have hnm : f.num = g.num ∧ f.st = g.st ∧ f.ag = g.ag := by rw [HFB.out.1, HFB.out.2.1, HFB.out.2.2, HGB.out.1, HGB.out.2.1, HGB.out.2.2]; exact ⟨rfl, rfl, rfl⟩
                              obtain ⟨hnm, hsm, hgm⟩ := hnm
                              rcases trk_ne hfg hnm hsm hgm with h | ⟨h1, h⟩ | ⟨h1, h2, h⟩ | ⟨h1, h2, h3, h⟩
                              all_goals
                                clear hfg HGB
                                go_upto_region 32 with fail
                                go_quiet (fail)
                                go_wp2
                                go_roundw
                                case rel => exact ⟨i + 1, by omega, by simp, by rw [HI1.out], (lec HBE.out (belN _ _))⟩
                                case measure => simp [intOf]; omega
                          · obtain rfl : i = nF := by omega
                            have hini : ¬ (i : Int) < (i : Int) := by omega
                            obtain ⟨cI, hcI⟩ : ∃ x, lkC F f i = x := ⟨_, rfl⟩
                            rw [hcI] at HBN ⊢
                            clear hcI
                            replace HL := hide (HL.out.below HBE.out)
                            replace HCX := hide (HCX.out.below HBE.out)
                            replace HCY := hide (HCY.out.below HBE.out)
                            replace HDA := hide (HDA.out.below HBE.out)
                            replace HR := hide (HR.out.below HBE.out)
                            replace HBG := hide (Nat.le_trans HBG.out HBE.out.size)
                            clear HBE
                            by_cases h64 : cI ≤ 64
                            · have h64i : (cI : Int) ≤ 64 := by omega
                              have h64b : decide ((cI : Int) ≤ 64) = true := by simp; omega
                              replace HBN := hide (show bnC F (j + 1) = bnC F j + 1 by rw [HBN.out, if_pos h64])
                              obtain ⟨bn, hbn⟩ : ∃ x, bnC F j = x := ⟨_, rfl⟩
                              rw [hbn] at HBN HCY hbl
                              clear hbn
                              have hwb : IntKind.i64.wrap ((bn : Int) + 1) = (bn : Int) + 1 := by rw [IntKind.wrap_i64]; omega
                              have cy := HCY.out.c t ht4
                              rw [upd_same] at cy
                              have fy := HCY.out.f t
                              have HS := hide (HCY.out.frs4 ht4 ((bn : Int) + 1))
                              replace HL := hide (HL.out.other HS.out.2 HYN.out.1 HYN.out.2.1 HYN.out.2.2.1 HYN.out.2.2.2.1 HYN.out.2.2.2.2)
                              replace HCX := hide (HCX.out.keep4 HS.out.2 HXY.out.1)
                              replace HDA := hide (HDA.out.keep HS.out.2.ex (fun g off e => (HDQ.out g off e).2.2.1))
                              replace HR := hide (HR.out.keep4 HS.out.2 HB1.out.1)
                              replace HBG := hide (Nat.le_trans HBG.out HS.out.2.ex.size)
                              clear HCY h64
                              go_wp2
                              go_roundw
                              case rel => exact ⟨j + 1, by omega, by simp, HL.out, HCX.out, HS.out.1.congr (fun i hi => by
                                by_cases e : i = t
                                · subst e; rw [upd_same, upd_same, HBN.out]; simp
                                · rw [upd_ne _ _ e, upd_ne _ _ e, upd_ne _ _ e]), HDA.out, HR.out, HBG.out⟩
                              case measure => simp [intOf]; omega
                            · have h64b : decide ((cI : Int) ≤ 64) = false := by simp; omega
                              replace HBN := hide (show bnC F (j + 1) = bnC F j by rw [HBN.out, if_neg h64]; rfl)
                              clear h64
                              go_wp2
                              go_roundw
                              case rel => exact ⟨j + 1, by omega, by simp, HL.out, HCX.out, HCY.out.congr (fun i hi => by rw [HBN.out]), HDA.out, HR.out, HBG.out⟩
                              case measure => simp [intOf]; omega
                      · obtain rfl : j = nF := by omega
                        have hjni : ¬ (j : Int) < (j : Int) := by omega
                        have HBA := hide (bnC_all HNF.out)
                        go_wp2
                        go_roundw
                        case rel => exact ⟨t + 1, by omega, by simp, HL.out, HCX.out, HCY.out.congr (fun i hi => by
                          by_cases e : i = t
                          · subst e; rw [upd_same, if_pos (by omega), HBA.out, ← HFE.out, HTT.out]
                          · rw [upd_ne _ _ e]
                            by_cases z : i < t
                            · rw [if_pos z, if_pos (by omega)]
                            · rw [if_neg z, if_neg (by omega)]), HDA.out, HBG.out⟩
                        case measure => simp [intOf]; omega
            · obtain rfl : t = 4 := by omega
              rw [show ((4 : Nat) : Int) = 4 from rfl]
              replace HCX := hide (HCX.out.congr (g := fun i => (TT i).next - 1) (fun i hi => by rw [if_pos hi]))
              replace HCY := hide (HCY.out.congr (g := fun i => ((bornP (fL (fuseP D (i : Int)) W' (TT i) 112) : Nat) : Int)) (fun i hi => by rw [if_pos hi]))
              go_upto_region 36 with fail
              as_aux_lemma =>
                go_wp2_with fail
                refine (tick_any _ b m p dX dY W' da _ dc D TT (1 + 112 * (k : Int)) HL.out.bd HL.out.ti (by omega) HL.out.mt HL.out.ne.2.2.1 HDA.out rfl (by omega) (fun g off e => ⟨Nat.lt_of_lt_of_le (HDQ.out g off e).2.2.2 HBG.out, (HDQ.out g off e).1⟩) HL.out.wr.wa HL.out.ne.2.2.2.2.1 HL.out.wo).mono ?_
                rintro e w6 ⟨TT', rfl, hbd, hti, htr, hfr⟩
                have HNO := hide (show ∀ t : Nat, t < 4 → (TT' t).next = (TT t).next + (bornP (fL (fuseP D (t : Int)) W' (TT t) 112) : Nat) ∧ ∀ a b, a < 64 → b < 64 → ((TT' t).sl a).used = true → ((TT' t).sl b).used = true → (TT t).next ≤ ((TT' t).sl a).tr.num → ((TT' t).sl a).tr.num < ((TT' t).sl b).tr.num → beforeP ((TT' t).sl b).tr ((TT' t).sl a).tr = false from fun t ht => numbers_ok (HL.out.ti.tk t ht) (by have := HL.out.ti.nx t ht; omega) (fuse_rng _ _) HL.out.wo (htr t ht))
                have HT0 := hide (show ∀ t, t < 4 → 1 ≤ (TT t).next ∧ (TT t).next ≤ 1000000000 from fun t ht => (HL.out.ti.tk t ht).inv.nx)
                replace HL := hide (HL.out.board hfr hbd hti)
                replace HCX := hide (HCX.out.keep4 hfr (Ne.symm HXN.out.2.2.2.1))
                replace HCY := hide (HCY.out.keep4 hfr (Ne.symm HYN.out.2.2.2.1))
                have HT1 := hide (show ∀ t, t < 4 → TkI (TT' t) from fun t ht => HL.out.ti.tk t ht)
                clear hbd hti htr hfr HBG HDQ HDA
                go_wp2
                go_loopw [18, 19, 20] (fun s18 _ _ wy => ∃ t : Nat, t ≤ 4 ∧ s18 = .int .i64 t ∧ LS w wy m p q b W' G TT' (1 + 112 * (k : Int) + 112) ∧ CN wy x (fun i => (TT i).next - 1) ∧ CN wy y (fun i => (bornP (fL (fuseP D (i : Int)) W' (TT i) 112) : Nat))) (fun s18 _ _ _ => 4 - (intOf s18).toNat)
                case atStart => exact ⟨0, by omega, rfl, HL.out, HCX.out, HCY.out⟩
                case round =>
                  clear HL HCX HCY
                  obtain ⟨t, ht, rfl, hl, hcx, hcy⟩ := hrel
                  have HL := hide hl
                  have HCX := hide hcx
                  have HCY := hide hcy
                  clear hl hcx hcy
                  by_cases ht4 : t < 4
                  · have ht4i : (t : Int) < 4 := by omega
                    obtain ⟨hne, hord⟩ := HNO.out t ht4
                    have HORD := hide hord
                    have HI1 := hide (HT1.out t ht4)
                    have hx0 := HT0.out t ht4
                    have hx1 := HI1.out.inv.nx
                    have HTA := hide (show ∀ wx, LS w wx m p q b W' G TT' (1 + 112 * (k : Int) + 112) → TA wx b (1 + t * 754) (TT' t) from fun wx h => h.bd.ta t ht4)
                    obtain ⟨bo, hbo⟩ : ∃ z, bornP (fL (fuseP D (t : Int)) W' (TT t) 112) = z := ⟨_, rfl⟩
                    have zx := HCX.out.c t ht4
                    have zy := HCY.out.c t ht4
                    (try dsimp only at zx zy)
                    rw [hbo] at zy
                    obtain ⟨T, hT⟩ : ∃ T, TT t = T := ⟨_, rfl⟩
                    obtain ⟨T', hT'⟩ : ∃ T, TT' t = T := ⟨_, rfl⟩
                    rw [hbo] at hne
                    rw [hT] at HORD hne hx0 zx
                    rw [hT'] at HORD HI1 HTA hne hx1
                    have HTT0 := hide hT
                    have zS := And.intro zx zy
                    have hwn : IntKind.i64.wrap (T.next - 1 + (bo : Int)) = T'.next - 1 := by rw [IntKind.wrap_i64]; omega
                    have ci := fun w h => hide (issued_any w b t ht4 T' h ⟨by omega, hx1.2⟩)
                    clear hT hT' zx zy hord hne hbo
                    go_upto_region 40 with fail
                    refine wp_region_held_drew (S := fun w' => w'.cell? ⟨x, t, none⟩ = some (.int .i64 (T.next - 1)) ∧ w'.cell? ⟨y, t, none⟩ = some (.int .i64 (bo : Int))) (by kernel_rfl) zS (fun hHeld => ?_)
                    refine wpAnyH_take (i := 0) (v := ?_) rfl (by kernel_rfl) (by kernel_rfl) (by kernel_rfl) (fun _ _ _ h => h) (Or.inl ⟨by rfl, ?_⟩) (by assumption) ?_
                    rotate_left
                    · (intro w hSw; (try dsimp only at hSw); go_simp; try (with_reducible rfl))
                    try simp only [Act.put, List.getElem_toArray, List.getElem_cons_zero, List.getElem_cons_succ, List.setIfInBounds_toArray, List.set_cons_zero, List.set_cons_succ]
                    refine wpAnyH_take (i := 1) (v := ?_) rfl (by kernel_rfl) (by kernel_rfl) (by kernel_rfl) (fun _ _ _ h => h) (Or.inl ⟨by rfl, ?_⟩) (by assumption) ?_
                    rotate_left
                    · (intro w hSw; (try dsimp only at hSw); go_simp; try (with_reducible rfl))
                    try simp only [Act.put, List.getElem_toArray, List.getElem_cons_zero, List.getElem_cons_succ, List.setIfInBounds_toArray, List.set_cons_zero, List.set_cons_succ]
                    refine wpAnyH_take (i := 3) (v := ?_) rfl (by kernel_rfl) (by kernel_rfl) (by kernel_rfl) (fun _ _ _ h => h) (Or.inl ⟨by rfl, ?_⟩) (by assumption) ?_
                    rotate_left
                    · (intro w hSw; (try dsimp only at hSw); go_simp; try (with_reducible rfl))
                    try simp only [Act.put, List.getElem_toArray, List.getElem_cons_zero, List.getElem_cons_succ, List.setIfInBounds_toArray, List.set_cons_zero, List.set_cons_succ]
                    refine wpAnyH_take (i := 4) (v := ?_) rfl (by kernel_rfl) (by kernel_rfl) (by kernel_rfl) (fun _ _ _ h => h) (Or.inl ⟨by rfl, ?_⟩) (by assumption) ?_
                    rotate_left
                    · (intro w hSw; (try dsimp only at hSw); go_simp; try (with_reducible rfl))
                    try simp only [Act.put, List.getElem_toArray, List.getElem_cons_zero, List.getElem_cons_succ, List.setIfInBounds_toArray, List.set_cons_zero, List.set_cons_succ]
                    refine wpAnyH_take (i := 5) (v := ?_) rfl (by kernel_rfl) (by kernel_rfl) (by kernel_rfl) (fun _ _ _ h => h) (Or.inl ⟨by rfl, ?_⟩) (by assumption) ?_
                    rotate_left
                    · (intro w hSw; (try dsimp only at hSw); go_simp; try (with_reducible rfl))
                    try simp only [Act.put, List.getElem_toArray, List.getElem_cons_zero, List.getElem_cons_succ, List.setIfInBounds_toArray, List.set_cons_zero, List.set_cons_succ]
                    refine wpAnyH_take (i := 6) (v := ?_) rfl (by kernel_rfl) (by kernel_rfl) (by kernel_rfl) (fun _ _ _ h => h) (Or.inl ⟨by rfl, ?_⟩) (by assumption) ?_
                    rotate_left
                    · (intro w hSw; (try dsimp only at hSw); go_simp; try (with_reducible rfl))
                    try simp only [Act.put, List.getElem_toArray, List.getElem_cons_zero, List.getElem_cons_succ, List.setIfInBounds_toArray, List.set_cons_zero, List.set_cons_succ]
                    refine wpAnyH_take (i := 7) (v := ?_) rfl (by kernel_rfl) (by kernel_rfl) (by kernel_rfl) (fun _ _ _ h => h) (Or.inl ⟨by rfl, ?_⟩) (by assumption) ?_
                    rotate_left
                    · (intro w hSw; (try dsimp only at hSw); go_simp; try (with_reducible rfl))
                    try simp only [Act.put, List.getElem_toArray, List.getElem_cons_zero, List.getElem_cons_succ, List.setIfInBounds_toArray, List.set_cons_zero, List.set_cons_succ]
                    refine wpAnyH_take (i := 8) (v := ?_) rfl (by kernel_rfl) (by kernel_rfl) (by kernel_rfl) (fun _ _ _ h => h) (Or.inl ⟨by rfl, ?_⟩) (by assumption) ?_
                    rotate_left
                    · (intro w hSw; (try dsimp only at hSw); go_simp; try (with_reducible rfl))
                    try simp only [Act.put, List.getElem_toArray, List.getElem_cons_zero, List.getElem_cons_succ, List.setIfInBounds_toArray, List.set_cons_zero, List.set_cons_succ]
                    refine wpAnyH_take (i := 9) (v := ?_) rfl (by kernel_rfl) (by kernel_rfl) (by kernel_rfl) (fun _ _ _ h => h) (Or.inl ⟨by rfl, ?_⟩) (by assumption) ?_
                    rotate_left
                    · (intro w hSw; (try dsimp only at hSw); go_simp; try (with_reducible rfl))
                    try simp only [Act.put, List.getElem_toArray, List.getElem_cons_zero, List.getElem_cons_succ, List.setIfInBounds_toArray, List.set_cons_zero, List.set_cons_succ]
                    refine wpAnyH_ready (rs := [2]) (by kernel_rfl) (by simp) ?_
                    refine (AllReadyH.cons rfl (fun K hK => ?_) AllReadyH.nil)
                    · refine step_call rfl 29 #[.pointer (some ⟨b, 0, none⟩), .int .i64 t] (by simp [go_sem]) (ci _ (HTA.out _ HL.out.drew)).out ?_
                      rintro e w8 ⟨rfl, rfl⟩
                      refine ⟨_, rfl, ?_⟩
                      refine hK.out _ _ ?_ (fun hHeld => ?_)
                      · (first | with_reducible exact zS | exact zS)
                      clear hK K
                      try simp only [Act.put, List.getElem_toArray, List.getElem_cons_zero, List.getElem_cons_succ, List.setIfInBounds_toArray, List.set_cons_zero, List.set_cons_succ]
                      refine wpAnyH_take (i := 10) (v := ?_) rfl (by kernel_rfl) (by kernel_rfl) (by kernel_rfl) (fun _ _ _ h => h) (Or.inl ⟨by rfl, ?_⟩) (by assumption) ?_
                      rotate_left
                      · (intro w hSw; (try dsimp only at hSw); go_simp; try (with_reducible rfl))
                      try simp only [Act.put, List.getElem_toArray, List.getElem_cons_zero, List.getElem_cons_succ, List.setIfInBounds_toArray, List.set_cons_zero, List.set_cons_succ]
                      refine wpAnyH_done (by kernel_rfl) ?_ _
                      replace HL := hide (HL.out.below (Below.refl _ _).drew)
                      replace HCX := hide (HCX.out.below (Below.refl _ _).drew)
                      replace HCY := hide (HCY.out.below (Below.refl _ _).drew)
                      generalize World.drew _ = w8 at *
                      clear zS ci hwn
                      have ci := fun w h => hide (issued_any w b t ht4 T' h ⟨by omega, hx1.2⟩)
                      go_wp2_with fail
                      refine (table_any _ b t ht4 T' (HTA.out _ HL.out)).mono ?_
                      rintro e w7 ⟨ta, tc, rfl, hr, hb⟩
                      have HM1 := hide (show ∀ d, d ∈ tabN T' 64 ↔ ∃ k, k < 64 ∧ (T'.sl k).used = true ∧ (T'.sl k).tr = d from fun d => tab_mem 64 d)
                      have HSR := hide (tab_sorted HI1.out.inv 64 (Nat.le_refl _))
                      have hl1 : (tabN T' 64).length ≤ 64 := tab_le 64
                      obtain ⟨L1, hL1⟩ : ∃ L, tabN T' 64 = L := ⟨_, rfl⟩
                      rw [hL1] at HM1 HSR hl1 hr ⊢
                      clear hL1
                      obtain ⟨n1, hn1⟩ : ∃ n, L1.length = n := ⟨_, rfl⟩
                      rw [hn1] at hl1 hr ⊢
                      have HN1 := hide hn1
                      clear hn1
                      replace HL := hide (HL.out.below hb)
                      replace HCX := hide (HCX.out.below hb)
                      replace HCY := hide (HCY.out.below hb)
                      obtain ⟨B1, HR⟩ : ∃ B1, Hid (TRow w7 B1 (.slice ta n1 tc) L1) := ⟨_, hide hr⟩
                      clear hr hb
                      go_wp2
                      go_loopw [20] (fun s20 wy => ∃ j : Nat, j ≤ n1 ∧ s20 = .int .i64 j ∧ LS w wy m p q b W' G TT' (1 + 112 * (k : Int) + 112) ∧ CN wy x (fun i => (TT i).next - 1) ∧ CN wy y (fun i => (bornP (fL (fuseP D (i : Int)) W' (TT i) 112) : Nat)) ∧ TRow wy B1 (.slice ta n1 tc) L1) (fun s20 _ => n1 - (intOf s20).toNat)
                      case atStart => exact ⟨0, by omega, rfl, HL.out, HCX.out, HCY.out, HR.out⟩
                      case round =>
                        clear HL HCX HCY HR
                        obtain ⟨j, hj, rfl, hl, hcx, hcy, hr⟩ := hrel
                        have HL := hide hl
                        have HCX := hide hcx
                        have HCY := hide hcy
                        have HR := hide hr
                        clear hl hcx hcy hr
                        by_cases hjn : j < n1
                        · have hjni : (j : Int) < (n1 : Int) := by omega
                          have hj00 : decide ((j : Int) < 0) = false := by simp
                          obtain ⟨u, hu⟩ : ∃ u, L1[j]? = some u := ⟨_, List.getElem?_eq_getElem (by have := HN1.out; omega)⟩
                          have HUI := hide hu
                          have hun : 1 ≤ u.num ∧ u.num < T'.next := by
                            obtain ⟨sk, h1, h2, h3⟩ := (HM1.out u).1 (List.mem_of_getElem? hu)
                            rw [← h3]; exact HI1.out.inv.num sk h1 h2
                          have hlo : decide (u.num < 1) = false := by simp; omega
                          have hhi : decide (T'.next - 1 < u.num) = false := by simp; omega
                          obtain ⟨gu, e, hru⟩ := HR.out.get HN1.out.symm hu
                          subst e
                          have zS := hru.tt.1
                          have ci2 := ci
                          clear hu hru hun
                          go_upto_region 46 with fail
                          refine wp_region_held_drew (S := fun w' => w'.cell? ⟨gu, j * 7, none⟩ = some (.int .i64 u.num)) (by kernel_rfl) zS (fun hHeld => ?_)
                          refine wpAnyH_take (i := 0) (v := ?_) rfl (by kernel_rfl) (by kernel_rfl) (by kernel_rfl) (fun _ _ _ h => h) (Or.inl ⟨by rfl, ?_⟩) (by assumption) ?_
                          rotate_left
                          · (intro w hSw; (try dsimp only at hSw); go_simp; try (with_reducible rfl))
                          try simp only [Act.put, List.getElem_toArray, List.getElem_cons_zero, List.getElem_cons_succ, List.setIfInBounds_toArray, List.set_cons_zero, List.set_cons_succ]
                          refine wpAnyH_take (i := 1) (v := ?_) rfl (by kernel_rfl) (by kernel_rfl) (by kernel_rfl) (fun _ _ _ h => h) (Or.inl ⟨by rfl, ?_⟩) (by assumption) ?_
                          rotate_left
                          · (intro w hSw; (try dsimp only at hSw); go_simp; try (with_reducible rfl))
                          try simp only [Act.put, List.getElem_toArray, List.getElem_cons_zero, List.getElem_cons_succ, List.setIfInBounds_toArray, List.set_cons_zero, List.set_cons_succ]
                          refine wpAnyH_take (i := 2) (v := ?_) rfl (by kernel_rfl) (by kernel_rfl) (by kernel_rfl) (fun _ _ _ h => h) (Or.inl ⟨by rfl, ?_⟩) (by assumption) ?_
                          rotate_left
                          · (intro w hSw; (try dsimp only at hSw); go_simp; try (with_reducible rfl))
                          try simp only [Act.put, List.getElem_toArray, List.getElem_cons_zero, List.getElem_cons_succ, List.setIfInBounds_toArray, List.set_cons_zero, List.set_cons_succ]
                          refine wpAnyH_take (i := 3) (v := ?_) rfl (by kernel_rfl) (by kernel_rfl) (by kernel_rfl) (fun _ _ _ h => h) (Or.inl ⟨by rfl, ?_⟩) (by assumption) ?_
                          rotate_left
                          · (intro w hSw; (try dsimp only at hSw); go_simp; try (with_reducible rfl))
                          try simp only [Act.put, List.getElem_toArray, List.getElem_cons_zero, List.getElem_cons_succ, List.setIfInBounds_toArray, List.set_cons_zero, List.set_cons_succ]
                          refine wpAnyH_take (i := 4) (v := ?_) rfl (by kernel_rfl) (by kernel_rfl) (by kernel_rfl) (fun _ _ _ h => h) (Or.inl ⟨by rfl, ?_⟩) (by assumption) ?_
                          rotate_left
                          · (intro w hSw; (try dsimp only at hSw); go_simp; try (with_reducible rfl))
                          try simp only [Act.put, List.getElem_toArray, List.getElem_cons_zero, List.getElem_cons_succ, List.setIfInBounds_toArray, List.set_cons_zero, List.set_cons_succ]
                          refine wpAnyH_take (i := 5) (v := ?_) rfl (by kernel_rfl) (by kernel_rfl) (by kernel_rfl) (fun _ _ _ h => h) (Or.inl ⟨by rfl, ?_⟩) (by assumption) ?_
                          rotate_left
                          · (intro w hSw; (try dsimp only at hSw); go_simp; try (with_reducible rfl))
                          try simp only [Act.put, List.getElem_toArray, List.getElem_cons_zero, List.getElem_cons_succ, List.setIfInBounds_toArray, List.set_cons_zero, List.set_cons_succ]
                          refine wpAnyH_take (i := 6) (v := ?_) rfl (by kernel_rfl) (by kernel_rfl) (by kernel_rfl) (fun _ _ _ h => h) (Or.inl ⟨by rfl, ?_⟩) (by assumption) ?_
                          rotate_left
                          · (intro w hSw; (try dsimp only at hSw); go_simp; try (with_reducible rfl))
                          try simp only [Act.put, List.getElem_toArray, List.getElem_cons_zero, List.getElem_cons_succ, List.setIfInBounds_toArray, List.set_cons_zero, List.set_cons_succ]
                          refine wpAnyH_take (i := 7) (v := ?_) rfl (by kernel_rfl) (by kernel_rfl) (by kernel_rfl) (fun _ _ _ h => h) (Or.inl ⟨by rfl, ?_⟩) (by assumption) ?_
                          rotate_left
                          · (intro w hSw; (try dsimp only at hSw); go_simp; try (with_reducible rfl))
                          try simp only [Act.put, List.getElem_toArray, List.getElem_cons_zero, List.getElem_cons_succ, List.setIfInBounds_toArray, List.set_cons_zero, List.set_cons_succ]
                          refine wpAnyH_take (i := 8) (v := ?_) rfl (by kernel_rfl) (by kernel_rfl) (by kernel_rfl) (fun _ _ _ h => h) (Or.inl ⟨by rfl, ?_⟩) (by assumption) ?_
                          rotate_left
                          · (intro w hSw; (try dsimp only at hSw); go_simp; try (with_reducible rfl))
                          try simp only [Act.put, List.getElem_toArray, List.getElem_cons_zero, List.getElem_cons_succ, List.setIfInBounds_toArray, List.set_cons_zero, List.set_cons_succ]
                          refine wpAnyH_take (i := 9) (v := ?_) rfl (by kernel_rfl) (by kernel_rfl) (by kernel_rfl) (fun _ _ _ h => h) (Or.inl ⟨by rfl, ?_⟩) (by assumption) ?_
                          rotate_left
                          · (intro w hSw; (try dsimp only at hSw); go_simp; try (with_reducible rfl))
                          try simp only [Act.put, List.getElem_toArray, List.getElem_cons_zero, List.getElem_cons_succ, List.setIfInBounds_toArray, List.set_cons_zero, List.set_cons_succ]
                          refine wpAnyH_take (i := 10) (v := ?_) rfl (by kernel_rfl) (by kernel_rfl) (by kernel_rfl) (fun _ _ _ h => h) (Or.inl ⟨by rfl, ?_⟩) (by assumption) ?_
                          rotate_left
                          · (intro w hSw; (try dsimp only at hSw); go_simp; try (with_reducible rfl))
                          try simp only [Act.put, List.getElem_toArray, List.getElem_cons_zero, List.getElem_cons_succ, List.setIfInBounds_toArray, List.set_cons_zero, List.set_cons_succ]
                          refine wpAnyH_take (i := 11) (v := ?_) rfl (by kernel_rfl) (by kernel_rfl) (by kernel_rfl) (fun _ _ _ h => h) (Or.inl ⟨by rfl, ?_⟩) (by assumption) ?_
                          rotate_left
                          · (intro w hSw; (try dsimp only at hSw); go_simp; try (with_reducible rfl))
                          try simp only [Act.put, List.getElem_toArray, List.getElem_cons_zero, List.getElem_cons_succ, List.setIfInBounds_toArray, List.set_cons_zero, List.set_cons_succ]
                          refine wpAnyH_take (i := 12) (v := ?_) rfl (by kernel_rfl) (by kernel_rfl) (by kernel_rfl) (fun _ _ _ h => h) (Or.inl ⟨by rfl, ?_⟩) (by assumption) ?_
                          rotate_left
                          · (intro w hSw; (try dsimp only at hSw); go_simp; try (with_reducible rfl))
                          try simp only [Act.put, List.getElem_toArray, List.getElem_cons_zero, List.getElem_cons_succ, List.setIfInBounds_toArray, List.set_cons_zero, List.set_cons_succ]
                          refine wpAnyH_take (i := 13) (v := ?_) rfl (by kernel_rfl) (by kernel_rfl) (by kernel_rfl) (fun _ _ _ h => h) (Or.inl ⟨by rfl, ?_⟩) (by assumption) ?_
                          rotate_left
                          · (intro w hSw; (try dsimp only at hSw); go_simp; try (with_reducible rfl))
                          try simp only [Act.put, List.getElem_toArray, List.getElem_cons_zero, List.getElem_cons_succ, List.setIfInBounds_toArray, List.set_cons_zero, List.set_cons_succ]
                          refine wpAnyH_ready (rs := [14]) (by kernel_rfl) (by simp) ?_
                          refine (AllReadyH.cons rfl (fun K hK => ?_) AllReadyH.nil)
                          · refine step_call_g (by rfl) 29 #[.pointer (some ⟨b, 0, none⟩), .int .i64 t] (by simp [go_sem]) (ci _ (HTA.out _ HL.out.drew)).out ?_
                            rintro e w9 ⟨rfl, rfl⟩
                            refine ⟨_, rfl, ?_⟩
                            refine hK.out _ _ ?_ (fun hHeld => ?_)
                            · (first | with_reducible exact zS | exact zS)
                            clear hK K
                            try simp only [Act.put, List.getElem_toArray, List.getElem_cons_zero, List.getElem_cons_succ, List.setIfInBounds_toArray, List.set_cons_zero, List.set_cons_succ]
                            refine wpAnyH_take (i := 15) (v := ?_) rfl (by kernel_rfl) (by kernel_rfl) (by kernel_rfl) (fun _ _ _ h => h) (Or.inl ⟨by rfl, ?_⟩) (by assumption) ?_
                            rotate_left
                            · (intro w hSw; (try dsimp only at hSw); go_simp; try (with_reducible rfl))
                            try simp only [Act.put, List.getElem_toArray, List.getElem_cons_zero, List.getElem_cons_succ, List.setIfInBounds_toArray, List.set_cons_zero, List.set_cons_succ]
                            refine wpAnyH_take (i := 16) (v := ?_) rfl (by kernel_rfl) (by kernel_rfl) (by kernel_rfl) (fun _ _ _ h => h) (Or.inl ⟨by rfl, ?_⟩) (by assumption) ?_
                            rotate_left
                            · (intro w hSw; (try dsimp only at hSw); go_simp; try (with_reducible rfl))
                            try simp only [Act.put, List.getElem_toArray, List.getElem_cons_zero, List.getElem_cons_succ, List.setIfInBounds_toArray, List.set_cons_zero, List.set_cons_succ]
                            refine wpAnyH_done (by kernel_rfl) ?_ _
                            replace HL := hide (HL.out.below (Below.refl _ _).drew)
                            replace HCX := hide (HCX.out.below (Below.refl _ _).drew)
                            replace HCY := hide (HCY.out.below (Below.refl _ _).drew)
                            replace HR := hide (HR.out.below (Below.refl _ _).drew)
                            generalize World.drew _ = w9 at *
                            clear zS ci hlo hhi
                            go_upto_region 48 with fail
                            by_cases hj0 : j = 0
                            · subst hj0
                              rw [show ((0 : Nat) : Int) = 0 from rfl]
                              go_quiet (fail)
                              rename_i nq
                              replace HL := hide (HL.out.below (belN _ nq))
                              replace HCX := hide (HCX.out.below (belN _ nq))
                              replace HCY := hide (HCY.out.below (belN _ nq))
                              replace HR := hide (HR.out.below (belN _ nq))
                              generalize World.drewN _ nq = w10 at *
                              go_upto_region 50 with fail
                              go_quiet (fail)
                              go_wp2
                              go_roundw
                              case rel => exact ⟨0 + 1, by omega, by simp, HL.out.below (belN _ _), HCX.out.below (belN _ _), HCY.out.below (belN _ _), HR.out.below (belN _ _)⟩
                              case measure => simp [intOf]; omega
                            · obtain ⟨i, hij⟩ : ∃ i, j = i + 1 := ⟨j - 1, by omega⟩
                              have hjp : (0 : Int) < (j : Int) := by omega
                              have hjq : 0 < j := by omega
                              have hjpb : decide ((0 : Int) < (j : Int)) = true := by simp; omega
                              have hii : (i : Int) < (n1 : Int) := by omega
                              have hi0' : decide ((i : Int) < 0) = false := by simp
                              have hwi : IntKind.i64.wrap ((j : Int) - 1) = (i : Int) := by rw [IntKind.wrap_i64]; omega
                              obtain ⟨u2, hu2⟩ : ∃ u, L1[i]? = some u := ⟨_, List.getElem?_eq_getElem (by have := HN1.out; omega)⟩
                              have hlt2 : u2.num < u.num := by
                                obtain ⟨q1, q2⟩ := List.getElem?_eq_some_iff.1 hu2
                                obtain ⟨q3, q4⟩ := List.getElem?_eq_some_iff.1 HUI.out
                                have := List.pairwise_iff_getElem.1 HSR.out i j q1 q3 (by omega)
                                rw [q2, q4] at this
                                exact this
                              have hlb : decide (u.num ≤ u2.num) = false := by simp; omega
                              have HUB := hide (show T.next - 1 < u2.num → inP u2 u = true from fun z => by
                                obtain ⟨k1, p1, p2, p3⟩ := (HM1.out u2).1 (List.mem_of_getElem? hu2)
                                obtain ⟨k2, q1, q2, q3⟩ := (HM1.out u).1 (List.mem_of_getElem? HUI.out)
                                have := HORD.out k1 k2 p1 q1 p2 q2 (by rw [p3]; omega) (by rw [p3, q3]; exact hlt2)
                                rw [p3, q3] at this
                                exact in_iff this)
                              have HIJ := hide hij
                              clear hij hj0
                              obtain ⟨gu0, e, hru⟩ := HR.out.get HN1.out.symm HUI.out
                              cases e
                              obtain ⟨gu2, e, hru2⟩ := HR.out.get HN1.out.symm hu2
                              cases e
                              have HU2 := hide hu2
                              have v0 := hru.tt.1
                              have y0 := hru2.tt.1
                              clear hru hru2 hu2 hlt2
                              go_quiet (fail)
                              rename_i nq
                              clear v0 y0 hlb
                              replace HL := hide (HL.out.below (belN _ nq))
                              replace HCX := hide (HCX.out.below (belN _ nq))
                              replace HCY := hide (HCY.out.below (belN _ nq))
                              replace HR := hide (HR.out.below (belN _ nq))
                              generalize World.drewN _ nq = w10 at *
                              go_upto_region 50 with fail
                              have cx := HCX.out.c t ht4
                              rw [HTT0.out] at cx
                              obtain ⟨gu3, e, hru⟩ := HR.out.get HN1.out.symm HUI.out
                              cases e
                              obtain ⟨gu4, e, hru2⟩ := HR.out.get HN1.out.symm HU2.out
                              cases e
                              by_cases hnew : T.next - 1 < u2.num
                              · have hnb : decide (T.next - 1 < u2.num) = true := by simp; omega
                                have hin := HUB.out hnew
                                have co := fun w => hide (inOrder_any w u2 u)
                                rw [hin] at co
                                have zR := fun wx (h1 : TRow wx B1 (.slice (some ⟨gu, 0, none⟩) n1 tc) L1) (h2 : CN wx x (fun i => (TT i).next - 1)) => z50 (i := i) (j := j) h1 HN1.out.symm HU2.out HUI.out (by have := h2.c t ht4; rw [HTT0.out] at this; exact this)
                                have zS := zR _ HR.out HCX.out
                                clear hin hnew cx hru hru2
                                refine wp_region_held_drew (S := fun w' => w'.cell? ⟨gu, i * 7, none⟩ = some (.int .i64 u2.num) ∧ w'.cell? ⟨gu, i * 7 + 1, none⟩ = some (.int .i64 u2.x) ∧ w'.cell? ⟨gu, i * 7 + 2, none⟩ = some (.int .i64 u2.y) ∧ w'.cell? ⟨gu, i * 7 + 3, none⟩ = some (.int .i64 u2.co) ∧ w'.cell? ⟨gu, i * 7 + 4, none⟩ = some (.int .i64 u2.sp) ∧ w'.cell? ⟨gu, i * 7 + 5, none⟩ = some (.int .i64 u2.st) ∧ w'.cell? ⟨gu, i * 7 + 6, none⟩ = some (.int .i64 u2.ag) ∧ w'.cell? ⟨gu, j * 7 + 1, none⟩ = some (.int .i64 u.x) ∧ w'.cell? ⟨gu, j * 7 + 2, none⟩ = some (.int .i64 u.y) ∧ w'.cell? ⟨gu, j * 7 + 3, none⟩ = some (.int .i64 u.co) ∧ w'.cell? ⟨gu, j * 7 + 4, none⟩ = some (.int .i64 u.sp) ∧ w'.cell? ⟨gu, j * 7 + 5, none⟩ = some (.int .i64 u.st) ∧ w'.cell? ⟨gu, j * 7 + 6, none⟩ = some (.int .i64 u.ag) ∧ w'.cell? ⟨gu, j * 7, none⟩ = some (.int .i64 u.num) ∧ w'.cell? ⟨x, t, none⟩ = some (.int .i64 (T.next - 1))) (by kernel_rfl) zS (fun hHeld => ?_)
                                refine wpAnyH_take (i := 0) (v := ?_) rfl (by kernel_rfl) (by kernel_rfl) (by kernel_rfl) (fun _ _ _ h => h) (Or.inl ⟨by rfl, ?_⟩) (by assumption) ?_
                                rotate_left
                                · (intro w hSw; (try dsimp only at hSw); go_simp; try (with_reducible rfl))
                                try simp only [Act.put, List.getElem_toArray, List.getElem_cons_zero, List.getElem_cons_succ, List.setIfInBounds_toArray, List.set_cons_zero, List.set_cons_succ]
                                refine wpAnyH_take (i := 1) (v := ?_) rfl (by kernel_rfl) (by kernel_rfl) (by kernel_rfl) (fun _ _ _ h => h) (Or.inl ⟨by rfl, ?_⟩) (by assumption) ?_
                                rotate_left
                                · (intro w hSw; (try dsimp only at hSw); go_simp; try (with_reducible rfl))
                                try simp only [Act.put, List.getElem_toArray, List.getElem_cons_zero, List.getElem_cons_succ, List.setIfInBounds_toArray, List.set_cons_zero, List.set_cons_succ]
                                refine wpAnyH_take (i := 2) (v := ?_) rfl (by kernel_rfl) (by kernel_rfl) (by kernel_rfl) (fun _ _ _ h => h) (Or.inl ⟨by rfl, ?_⟩) (by assumption) ?_
                                rotate_left
                                · (intro w hSw; (try dsimp only at hSw); go_simp; try (with_reducible rfl))
                                try simp only [Act.put, List.getElem_toArray, List.getElem_cons_zero, List.getElem_cons_succ, List.setIfInBounds_toArray, List.set_cons_zero, List.set_cons_succ]
                                refine wpAnyH_take (i := 3) (v := ?_) rfl (by kernel_rfl) (by kernel_rfl) (by kernel_rfl) (fun _ _ _ h => h) (Or.inl ⟨by rfl, ?_⟩) (by assumption) ?_
                                rotate_left
                                · (intro w hSw; (try dsimp only at hSw); go_simp; try (with_reducible rfl))
                                try simp only [Act.put, List.getElem_toArray, List.getElem_cons_zero, List.getElem_cons_succ, List.setIfInBounds_toArray, List.set_cons_zero, List.set_cons_succ]
                                refine wpAnyH_take (i := 4) (v := ?_) rfl (by kernel_rfl) (by kernel_rfl) (by kernel_rfl) (fun _ _ _ h => h) (Or.inl ⟨by rfl, ?_⟩) (by assumption) ?_
                                rotate_left
                                · (intro w hSw; (try dsimp only at hSw); go_simp; try (with_reducible rfl))
                                try simp only [Act.put, List.getElem_toArray, List.getElem_cons_zero, List.getElem_cons_succ, List.setIfInBounds_toArray, List.set_cons_zero, List.set_cons_succ]
                                refine wpAnyH_take (i := 5) (v := ?_) rfl (by kernel_rfl) (by kernel_rfl) (by kernel_rfl) (fun _ _ _ h => h) (Or.inl ⟨by rfl, ?_⟩) (by assumption) ?_
                                rotate_left
                                · (intro w hSw; (try dsimp only at hSw); go_simp; try (with_reducible rfl))
                                try simp only [Act.put, List.getElem_toArray, List.getElem_cons_zero, List.getElem_cons_succ, List.setIfInBounds_toArray, List.set_cons_zero, List.set_cons_succ]
                                refine wpAnyH_take (i := 6) (v := ?_) rfl (by kernel_rfl) (by kernel_rfl) (by kernel_rfl) (fun _ _ _ h => h) (Or.inl ⟨by rfl, ?_⟩) (by assumption) ?_
                                rotate_left
                                · (intro w hSw; (try dsimp only at hSw); go_simp; try (with_reducible rfl))
                                try simp only [Act.put, List.getElem_toArray, List.getElem_cons_zero, List.getElem_cons_succ, List.setIfInBounds_toArray, List.set_cons_zero, List.set_cons_succ]
                                refine wpAnyH_take (i := 7) (v := ?_) rfl (by kernel_rfl) (by kernel_rfl) (by kernel_rfl) (fun _ _ _ h => h) (Or.inl ⟨by rfl, ?_⟩) (by assumption) ?_
                                rotate_left
                                · (intro w hSw; (try dsimp only at hSw); go_simp; try (with_reducible rfl))
                                try simp only [Act.put, List.getElem_toArray, List.getElem_cons_zero, List.getElem_cons_succ, List.setIfInBounds_toArray, List.set_cons_zero, List.set_cons_succ]
                                refine wpAnyH_take (i := 8) (v := ?_) rfl (by kernel_rfl) (by kernel_rfl) (by kernel_rfl) (fun _ _ _ h => h) (Or.inl ⟨by rfl, ?_⟩) (by assumption) ?_
                                rotate_left
                                · (intro w hSw; (try dsimp only at hSw); go_simp; try (with_reducible rfl))
                                try simp only [Act.put, List.getElem_toArray, List.getElem_cons_zero, List.getElem_cons_succ, List.setIfInBounds_toArray, List.set_cons_zero, List.set_cons_succ]
                                refine wpAnyH_take (i := 9) (v := ?_) rfl (by kernel_rfl) (by kernel_rfl) (by kernel_rfl) (fun _ _ _ h => h) (Or.inl ⟨by rfl, ?_⟩) (by assumption) ?_
                                rotate_left
                                · (intro w hSw; (try dsimp only at hSw); go_simp; try (with_reducible rfl))
                                try simp only [Act.put, List.getElem_toArray, List.getElem_cons_zero, List.getElem_cons_succ, List.setIfInBounds_toArray, List.set_cons_zero, List.set_cons_succ]
                                refine wpAnyH_take (i := 10) (v := ?_) rfl (by kernel_rfl) (by kernel_rfl) (by kernel_rfl) (fun _ _ _ h => h) (Or.inl ⟨by rfl, ?_⟩) (by assumption) ?_
                                rotate_left
                                · (intro w hSw; (try dsimp only at hSw); go_simp; try (with_reducible rfl))
                                try simp only [Act.put, List.getElem_toArray, List.getElem_cons_zero, List.getElem_cons_succ, List.setIfInBounds_toArray, List.set_cons_zero, List.set_cons_succ]
                                refine wpAnyH_take (i := 11) (v := ?_) rfl (by kernel_rfl) (by kernel_rfl) (by kernel_rfl) (fun _ _ _ h => h) (Or.inl ⟨by rfl, ?_⟩) (by assumption) ?_
                                rotate_left
                                · (intro w hSw; (try dsimp only at hSw); go_simp; try (with_reducible rfl))
                                try simp only [Act.put, List.getElem_toArray, List.getElem_cons_zero, List.getElem_cons_succ, List.setIfInBounds_toArray, List.set_cons_zero, List.set_cons_succ]
                                refine wpAnyH_take (i := 12) (v := ?_) rfl (by kernel_rfl) (by kernel_rfl) (by kernel_rfl) (fun _ _ _ h => h) (Or.inl ⟨by rfl, ?_⟩) (by assumption) ?_
                                rotate_left
                                · (intro w hSw; (try dsimp only at hSw); go_simp; try (with_reducible rfl))
                                try simp only [Act.put, List.getElem_toArray, List.getElem_cons_zero, List.getElem_cons_succ, List.setIfInBounds_toArray, List.set_cons_zero, List.set_cons_succ]
                                refine wpAnyH_take (i := 13) (v := ?_) rfl (by kernel_rfl) (by kernel_rfl) (by kernel_rfl) (fun _ _ _ h => h) (Or.inl ⟨by rfl, ?_⟩) (by assumption) ?_
                                rotate_left
                                · (intro w hSw; (try dsimp only at hSw); go_simp; try (with_reducible rfl))
                                try simp only [Act.put, List.getElem_toArray, List.getElem_cons_zero, List.getElem_cons_succ, List.setIfInBounds_toArray, List.set_cons_zero, List.set_cons_succ]
                                refine wpAnyH_take (i := 14) (v := ?_) rfl (by kernel_rfl) (by kernel_rfl) (by kernel_rfl) (fun _ _ _ h => h) (Or.inl ⟨by rfl, ?_⟩) (by assumption) ?_
                                rotate_left
                                · (intro w hSw; (try dsimp only at hSw); go_simp; try (with_reducible rfl))
                                try simp only [Act.put, List.getElem_toArray, List.getElem_cons_zero, List.getElem_cons_succ, List.setIfInBounds_toArray, List.set_cons_zero, List.set_cons_succ]
                                refine wpAnyH_take (i := 15) (v := ?_) rfl (by kernel_rfl) (by kernel_rfl) (by kernel_rfl) (fun _ _ _ h => h) (Or.inl ⟨by rfl, ?_⟩) (by assumption) ?_
                                rotate_left
                                · (intro w hSw; (try dsimp only at hSw); go_simp; try (with_reducible rfl))
                                try simp only [Act.put, List.getElem_toArray, List.getElem_cons_zero, List.getElem_cons_succ, List.setIfInBounds_toArray, List.set_cons_zero, List.set_cons_succ]
                                refine wpAnyH_take (i := 16) (v := ?_) rfl (by kernel_rfl) (by kernel_rfl) (by kernel_rfl) (fun _ _ _ h => h) (Or.inl ⟨by rfl, ?_⟩) (by assumption) ?_
                                rotate_left
                                · (intro w hSw; (try dsimp only at hSw); go_simp; try (with_reducible rfl))
                                try simp only [Act.put, List.getElem_toArray, List.getElem_cons_zero, List.getElem_cons_succ, List.setIfInBounds_toArray, List.set_cons_zero, List.set_cons_succ]
                                refine wpAnyH_take (i := 17) (v := ?_) rfl (by kernel_rfl) (by kernel_rfl) (by kernel_rfl) (fun _ _ _ h => h) (Or.inl ⟨by rfl, ?_⟩) (by assumption) ?_
                                rotate_left
                                · (intro w hSw; (try dsimp only at hSw); go_simp; try (with_reducible rfl))
                                try simp only [Act.put, List.getElem_toArray, List.getElem_cons_zero, List.getElem_cons_succ, List.setIfInBounds_toArray, List.set_cons_zero, List.set_cons_succ]
                                refine wpAnyH_take (i := 18) (v := ?_) rfl (by kernel_rfl) (by kernel_rfl) (by kernel_rfl) (fun _ _ _ h => h) (Or.inl ⟨by rfl, ?_⟩) (by assumption) ?_
                                rotate_left
                                · (intro w hSw; (try dsimp only at hSw); go_simp; try (with_reducible rfl))
                                try simp only [Act.put, List.getElem_toArray, List.getElem_cons_zero, List.getElem_cons_succ, List.setIfInBounds_toArray, List.set_cons_zero, List.set_cons_succ]
                                refine wpAnyH_take (i := 19) (v := ?_) rfl (by kernel_rfl) (by kernel_rfl) (by kernel_rfl) (fun _ _ _ h => h) (Or.inl ⟨by rfl, ?_⟩) (by assumption) ?_
                                rotate_left
                                · (intro w hSw; (try dsimp only at hSw); go_simp; try (with_reducible rfl))
                                try simp only [Act.put, List.getElem_toArray, List.getElem_cons_zero, List.getElem_cons_succ, List.setIfInBounds_toArray, List.set_cons_zero, List.set_cons_succ]
                                refine wpAnyH_take (i := 20) (v := ?_) rfl (by kernel_rfl) (by kernel_rfl) (by kernel_rfl) (fun _ _ _ h => h) (Or.inl ⟨by rfl, ?_⟩) (by assumption) ?_
                                rotate_left
                                · (intro w hSw; (try dsimp only at hSw); go_simp; try (with_reducible rfl))
                                try simp only [Act.put, List.getElem_toArray, List.getElem_cons_zero, List.getElem_cons_succ, List.setIfInBounds_toArray, List.set_cons_zero, List.set_cons_succ]
                                refine wpAnyH_take (i := 21) (v := ?_) rfl (by kernel_rfl) (by kernel_rfl) (by kernel_rfl) (fun _ _ _ h => h) (Or.inl ⟨by rfl, ?_⟩) (by assumption) ?_
                                rotate_left
                                · (intro w hSw; (try dsimp only at hSw); go_simp; try (with_reducible rfl))
                                try simp only [Act.put, List.getElem_toArray, List.getElem_cons_zero, List.getElem_cons_succ, List.setIfInBounds_toArray, List.set_cons_zero, List.set_cons_succ]
                                refine wpAnyH_take (i := 22) (v := ?_) rfl (by kernel_rfl) (by kernel_rfl) (by kernel_rfl) (fun _ _ _ h => h) (Or.inl ⟨by rfl, ?_⟩) (by assumption) ?_
                                rotate_left
                                · (intro w hSw; (try dsimp only at hSw); go_simp; try (with_reducible rfl))
                                try simp only [Act.put, List.getElem_toArray, List.getElem_cons_zero, List.getElem_cons_succ, List.setIfInBounds_toArray, List.set_cons_zero, List.set_cons_succ]
                                refine wpAnyH_take (i := 23) (v := ?_) rfl (by kernel_rfl) (by kernel_rfl) (by kernel_rfl) (fun _ _ _ h => h) (Or.inl ⟨by rfl, ?_⟩) (by assumption) ?_
                                rotate_left
                                · (intro w hSw; (try dsimp only at hSw); go_simp; try (with_reducible rfl))
                                try simp only [Act.put, List.getElem_toArray, List.getElem_cons_zero, List.getElem_cons_succ, List.setIfInBounds_toArray, List.set_cons_zero, List.set_cons_succ]
                                refine wpAnyH_ready (rs := [24]) (by kernel_rfl) (by simp) ?_
                                refine (AllReadyH.cons rfl (fun K hK => ?_) AllReadyH.nil)
                                · refine step_call_g (by rfl) 36 #[.agg #[.int .i64 u2.num, .int .i64 u2.x, .int .i64 u2.y, .int .i64 u2.co, .int .i64 u2.sp, .int .i64 u2.st, .int .i64 u2.ag], .agg #[.int .i64 u.num, .int .i64 u.x, .int .i64 u.y, .int .i64 u.co, .int .i64 u.sp, .int .i64 u.st, .int .i64 u.ag]] (by simp [go_sem]) (co _).out ?_
                                  rintro e w10 ⟨rfl, b10⟩
                                  replace b10 := of_drew b10
                                  have HL1 := hide (HL.out.below b10)
                                  have HCX1 := hide (HCX.out.below b10)
                                  have HCY1 := hide (HCY.out.below b10)
                                  have HR1 := hide (HR.out.below b10)
                                  have zS1 := zR _ HR1.out HCX1.out
                                  clear b10
                                  refine ⟨_, rfl, ?_⟩
                                  refine hK.out _ _ ?_ (fun hHeld => ?_)
                                  · (first | with_reducible exact zS | with_reducible exact zS1 | exact zS)
                                  clear hK K
                                  try simp only [Act.put, List.getElem_toArray, List.getElem_cons_zero, List.getElem_cons_succ, List.setIfInBounds_toArray, List.set_cons_zero, List.set_cons_succ]
                                  refine wpAnyH_take (i := 25) (v := ?_) rfl (by kernel_rfl) (by kernel_rfl) (by kernel_rfl) (fun _ _ _ h => h) (Or.inl ⟨by rfl, ?_⟩) (by assumption) ?_
                                  rotate_left
                                  · (intro w hSw; (try dsimp only at hSw); go_simp; try (with_reducible rfl))
                                  try simp only [Act.put, List.getElem_toArray, List.getElem_cons_zero, List.getElem_cons_succ, List.setIfInBounds_toArray, List.set_cons_zero, List.set_cons_succ]
                                  refine wpAnyH_take (i := 26) (v := ?_) rfl (by kernel_rfl) (by kernel_rfl) (by kernel_rfl) (fun _ _ _ h => h) (Or.inl ⟨by rfl, ?_⟩) (by assumption) ?_
                                  rotate_left
                                  · (intro w hSw; (try dsimp only at hSw); go_simp; try (with_reducible rfl))
                                  try simp only [Act.put, List.getElem_toArray, List.getElem_cons_zero, List.getElem_cons_succ, List.setIfInBounds_toArray, List.set_cons_zero, List.set_cons_succ]
                                  refine wpAnyH_done (by kernel_rfl) ?_ _
                                  clear zS zS1 zR co HL HCX HCY HR
                                  go_wp2
                                  go_roundw
                                  case rel => exact ⟨j + 1, by omega, by simp, HL1.out, HCX1.out, HCY1.out, HR1.out⟩
                                  case measure => simp [intOf]; omega
                              · have hnb : decide (T.next - 1 < u2.num) = false := by simp; omega
                                have y0 := hru2.tt.1
                                clear hru hru2 hnew
                                go_quiet (fail)
                                clear y0 cx hnb
                                go_wp2
                                go_roundw
                                case rel => exact ⟨j + 1, by omega, by simp, HL.out.below (belN _ _), HCX.out.below (belN _ _), HCY.out.below (belN _ _), HR.out.below (belN _ _)⟩
                                case measure => simp [intOf]; omega
                        · obtain rfl : j = n1 := by omega
                          have hjni : ¬ (j : Int) < (j : Int) := by omega
                          go_wp2
                          go_roundw
                          case rel => exact ⟨t + 1, by omega, by simp, HL.out, HCX.out, HCY.out⟩
                          case measure => simp [intOf]; omega
                  · obtain rfl : t = 4 := by omega
                    rw [show ((4 : Nat) : Int) = 4 from rfl]
                    go_upto_region 52 with fail
                    obtain ⟨_, _, e, -, c0, c1, c2, c3, c4, c5, c6⟩ := HC.out _ HL.out.bel
                    cases e
                    go_wp2_with fail
                    refine (stepP_any _ q G HL.out.pa op HOK.out).mono ?_
                    rintro e w9 ⟨rfl, h1, h2⟩
                    have HLe := hide ((HL.out.pend h2 h1 (pst_ok op HL.out.gk)).mono (N' := 1 + 112 * ((k + 1 : Nat) : Int)) (by omega))
                    clear c0 c1 c2 c3 c4 c5 c6 h1 h2 HL
                    go_wp2
                    go_roundw
                    case rel => exact ⟨k + 1, _, _, _, by omega, by simp, HLe.out⟩
                    case measure => simp [intOf]; omega
        · have hkb : (op.kd == 2) = false := by simp [hkd]
          clear hkd
          go_upto_region 52 with fail
          clear c0 c1 c2 c3 c4 c5 c6
          obtain ⟨_, _, e, -, c0, c1, c2, c3, c4, c5, c6⟩ := HC.out _ HL2.out.bel
          cases e
          go_wp2_with fail
          refine (stepP_any _ q G HL2.out.pa op HOK.out).mono ?_
          rintro e w9 ⟨rfl, h1, h2⟩
          have HLe := hide ((HL2.out.pend h2 h1 (pst_ok op HL2.out.gk)).mono (N' := 1 + 112 * ((k + 1 : Nat) : Int)) (by omega))
          clear c0 c1 c2 c3 c4 c5 c6 h1 h2 HL2
          go_wp2
          go_roundw
          case rel => exact ⟨k + 1, _, _, _, by omega, by simp, HLe.out⟩
          case measure => simp [intOf]; omega
      · obtain rfl : k = n := by omega
        have hlti : ¬ (k : Int) < (k : Int) := by omega
        go_wp2
        go_ret
        exact ⟨rfl, HL.out.bel⟩
  · go_enter Try.func7, Try.ntmps7
    go_wp2_with fail
    refine (small_any _ a n cap hn).mono ?_
    rintro e w' ⟨rfl, ew⟩
    rw [ew]
    have hd : decide (n ≤ 65536) = false := by simpa using hsm
    rw [hd]
    clear hd ew w'
    go_wp2
    go_ret
    exact ⟨rfl, Below.refl _ _⟩
end Go.Proofs.Qxb6500777a
