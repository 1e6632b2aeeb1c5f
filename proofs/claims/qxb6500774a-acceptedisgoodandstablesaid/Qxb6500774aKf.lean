import Derived.Test.Qxb6500774aKe
namespace Go.Proofs.Qxb6500774a
open Go.RowKit
set_option linter.unusedVariables false
set_option linter.unusedSimpArgs false

/-! ### The tokens of a text -/
def tks (s : List Int) : Nat → TK × Pl
  | 0 => if 1048576 < s.length then (⟨1, ⟨#[]⟩, 0, 1, 1, 1⟩, ⟨0, 1, 0⟩) else nextP s ⟨0, 1, 0⟩
  | k + 1 => nextP s (tks s k).2
theorem negT_bad {t : TK} (h : (negT t).k = 1) (ht : t.k ≠ 1) : (negT t).e ≠ 0 := by
  unfold negT at h ⊢
  split
  · show (4 : Int) ≠ 0; decide
  · next hv => rw [if_neg hv] at h; exact absurd h ht
theorem next_bad {s : List Int} {q : Pl} (h : (nextP s q).1.k = 1) : (nextP s q).1.e ≠ 0 := by
  unfold nextP at h ⊢
  split
  · next hs =>
    rw [if_pos hs] at h
    generalize (skP s q).2 = q1 at *
    unfold nx2 at h ⊢
    split
    · next h1 => rw [if_pos h1] at h; cases h
    · next h1 =>
      rw [if_neg h1] at h
      split
      · next h2 => rw [if_pos h2] at h; exact negT_bad h (by show (3 : Int) ≠ 1; decide)
      · next h2 =>
        rw [if_neg h2] at h
        split
        · next h3 =>
          rw [if_pos h3] at h
          split
          · show (2 : Int) ≠ 0; decide
          · next h4 => rw [if_neg h4] at h; cases h
        · next h3 =>
          rw [if_neg h3] at h
          split
          · next h4 => rw [if_pos h4] at h; exact negT_bad h (by show (4 : Int) ≠ 1; decide)
          · next h4 =>
            rw [if_neg h4] at h
            exfalso
            have h5 : (if kwP (strOfNums (run1 s q1.o)).toList = true then (5 : Int) else 2) = 1 := h
            split at h5 <;> cases h5
  · show (3 : Int) ≠ 0; decide
theorem tks_bad {s : List Int} {k : Nat} (h : (tks s k).1.k = 1) : (tks s k).1.e ≠ 0 := by
  cases k with
  | zero =>
    unfold tks at h ⊢
    split
    · show (1 : Int) ≠ 0; decide
    · next hl => rw [if_neg hl] at h; exact next_bad h
  | succ k => exact next_bad h
/-! ### The parser's states -/
inductive PSt where
  | at (k : Nat) (d : Int)
  | bad (er l c : Int)
def InS (B p : Nat) (a : Option Addr) (cp : Nat) (s : List Int) (w : World) : PSt → Prop
  | .at k d => PK B p a cp s w (tks s k).2 (tks s k).1 d 0 0 0 ∧ (1048576 < s.length → k = 0)
  | .bad er l c => er ≠ 0 ∧ ∃ q t d, t.k = 1 ∧ PK B p a cp s w q t d er l c
def isK (t : TK) (u : ByteArray) : Bool := (t.k == 5) && (t.x.toList == u.toList)
def failS (s : List Int) (er : Int) : PSt → PSt
  | .at k _ => .bad (if (tks s k).1.k = 1 then (tks s k).1.e else er) (tks s k).1.l (tks s k).1.c
  | .bad e l c => .bad e l c
def tk00 : TK := ⟨0, ⟨#[]⟩, 0, 0, 0, 0⟩
def takeS (s : List Int) (kk : Int) : PSt → TK × PSt
  | .at k d => if (tks s k).1.k = kk then ((tks s k).1, .at (k + 1) d) else (tk00, failS s 5 (.at k d))
  | .bad e l c => (tk00, .bad e l c)
def atS (s : List Int) (u : ByteArray) : PSt → Bool
  | .at k _ => isK (tks s k).1 u
  | .bad _ _ _ => false
def acceptS (s : List Int) (u : ByteArray) (st : PSt) : Bool × PSt := if atS s u st = true then (true, (takeS s 5 st).2) else (false, st)
def expectS (s : List Int) (u : ByteArray) (st : PSt) : PSt := if atS s u st = true then (takeS s 5 st).2 else failS s 5 st
section
variable {B p : Nat} {a : Option Addr} {cp : Nat} {s : List Int} {w w' : World} {st : PSt}
theorem InS.ex (h : InS B p a cp s w st) {S : Nat → Prop} (e : Ex S w w') (hS : ∀ k, S k → B ≤ k) : InS B p a cp s w' st := by
  cases st with
  | «at» k d => exact ⟨h.1.ex e hS, h.2⟩
  | bad er l c =>
    obtain ⟨h0, q, t, d, hk, hp⟩ := h
    exact ⟨h0, q, t, d, hk, hp.ex e hS⟩
theorem InS.pk (h : InS B p a cp s w st) : ∃ q t d fe fl fc, PK B p a cp s w q t d fe fl fc ∧ (∀ kk : Int, kk ≠ 1 → ((takeS s kk st).2 = failS s 5 st ∧ (takeS s kk st).1 = tk00) ∨ t.k = kk ∧ ∃ k, st = .at k d ∧ t = (tks s k).1) ∧ ∀ u, atS s u st = ((t.k == 5) && (t.x.toList == u.toList)) := by
  cases st with
  | «at» k d =>
    refine ⟨_, _, d, 0, 0, 0, h.1, fun kk _ => ?_, fun u => rfl⟩
    by_cases hk : (tks s k).1.k = kk
    · exact .inr ⟨hk, k, rfl, rfl⟩
    · left
      unfold takeS
      dsimp only
      rw [if_neg hk]
      exact ⟨rfl, rfl⟩
  | bad er l c =>
    obtain ⟨h0, q, t, d, hk, hp⟩ := h
    refine ⟨q, t, d, er, l, c, hp, fun kk _ => .inl ⟨rfl, rfl⟩, fun u => ?_⟩
    rw [hk]
    rfl
theorem InS.hB (h : InS B p a cp s w st) : B ≤ w.heap.size ∧ p < B := by
  obtain ⟨q, t, d, fe, fl, fc, hp, _⟩ := h.pk
  exact ⟨hp.hB, hp.hp⟩
end
set_option maxRecDepth 100000 in
set_option maxHeartbeats 4000000 in
/-- parser.fail at a token that the lexer refused -/
theorem failK_lex {B p : Nat} {a : Option Addr} {cp : Nat} {s : List Int} (w : World) {q : Pl} {t : TK} {d fl fc : Int} (h : PK B p a cp s w q t d 0 fl fc) (hk : (t.k == 1) = true) (er : Int) :
    Calls Try.prog 71 #[.pointer (some ⟨p, 0, none⟩), .int .i64 er] w fun e w' => e = .returned (.tuple #[]) ∧ Ex (fun k => k = p) w w' ∧ PK B p a cp s w' q { t with k := 1 } d t.e t.l t.c := by
  have H := hide h
  have c4 := h.c4
  have c7 := h.c7
  have c8 := h.c8
  have c9 := h.c9
  have c11 := h.c11
  have c12 := h.c12
  have c13 := h.c13
  have f4 := h.fr 4
  have f11 := h.fr 11
  have f12 := h.fr 12
  have f13 := h.fr 13
  clear h
  go_enter Try.func71, Try.ntmps71
  go_wp2_with fail
  go_region
  go_wp2
  refine ⟨rfl, .tuple #[], by simp [results, Try.results71], rfl, ?_, ?_⟩
  · exact (((((Ex.refl (fun k => k = p) w).set (p := p) rfl _).set (p := p) rfl _).set (p := p) rfl _).set (p := p) rfl _).drew
  · exact ((H.out.flt t.e t.l t.c).kind 1).drewN 1
section
variable {B p : Nat} {a : Option Addr} {cp : Nat} {s : List Int}
def StP (B p : Nat) (a : Option Addr) (cp : Nat) (s : List Int) (w : World) (v : Value) (st : PSt) (e : Ending) (w' : World) : Prop := e = .returned v ∧ Ex (fun k => k = p) w w' ∧ InS B p a cp s w' st
/-- parser.fail -/
theorem failK_any (w : World) {st : PSt} (h : InS B p a cp s w st) (er : Int) (her : er ≠ 0) : Calls Try.prog 71 #[.pointer (some ⟨p, 0, none⟩), .int .i64 er] w (StP B p a cp s w (.tuple #[]) (failS s er st)) := by
  cases st with
  | «at» k d =>
    by_cases hk : (tks s k).1.k = 1
    · refine (failK_lex w h.1 (by simpa using hk) er).mono ?_
      rintro e w' ⟨rfl, hex, hp⟩
      refine ⟨rfl, hex, ?_⟩
      unfold failS
      dsimp only
      rw [if_pos hk]
      exact ⟨tks_bad hk, _, _, d, rfl, hp⟩
    · refine (failK_first w h.1 (by simpa using hk) er).mono ?_
      rintro e w' ⟨rfl, hex, hp⟩
      refine ⟨rfl, hex, ?_⟩
      unfold failS
      dsimp only
      rw [if_neg hk]
      exact ⟨her, _, _, d, rfl, hp⟩
  | bad fe fl fc =>
    obtain ⟨h0, q, t, d, hk, hp⟩ := h
    refine (failK_again w hp (by simpa using h0) er).mono ?_
    rintro e w' ⟨rfl, rfl⟩
    exact ⟨rfl, Ex.refl _ _, h0, q, t, d, hk, hp⟩
/-- parser.at -/
theorem atK_any (w : World) {st : PSt} (h : InS B p a cp s w st) (u : ByteArray) : Calls Try.prog 72 #[.pointer (some ⟨p, 0, none⟩), .string u] w fun e w' => e = .returned (.bool (atS s u st)) ∧ w' = w := by
  obtain ⟨q, t, d, fe, fl, fc, hp, _, hat⟩ := h.pk
  rw [hat u]
  exact at_any w p t.k t.x u hp.c4 hp.c5
set_option linter.unusedSimpArgs false in
set_option maxRecDepth 100000 in
set_option maxHeartbeats 4000000 in
/-- parser.take, of another kind -/
theorem takeK_no (w : World) {st : PSt} (h : InS B p a cp s w st) (kk : Int) {q : Pl} {t : TK} {d fe fl fc : Int} (hps : PK B p a cp s w q t d fe fl fc) (hne : (t.k != kk) = true) :
    Calls Try.prog 35 #[.pointer (some ⟨p, 0, none⟩), .int .i64 kk] w (StP B p a cp s w (tkV tk00) (failS s 5 st)) := by
  have H := hide hps
  have HI := hide h
  have c4 := hps.c4
  have c5 := hps.c5
  have c6 := hps.c6
  have c7 := hps.c7
  have c8 := hps.c8
  have c9 := hps.c9
  have hpl : p < w.heap.size := World.block_lt_of_cell? _ _ c4
  clear hps h
  obtain ⟨sf, hsf⟩ : ∃ x, failS s 5 st = x := ⟨_, rfl⟩
  have HSF := hide hsf
  rw [hsf]
  clear hsf
  go_enter Try.func35, Try.ntmps35
  go_wp2_with fail
  have hi2 : InS B p a cp s ((w.alloc (.cells #[.int .i64 0, .string ⟨#[]⟩, .int .i64 0, .int .i64 0, .int .i64 0, .int .i64 0] 81)).alloc (.cells #[.int .i64 t.k, .string t.x, .int .i64 t.v, .int .i64 t.e, .int .i64 t.l, .int .i64 t.c] 81)) st := HI.out.ex (S := fun _ => False) (((Ex.refl _ w).alloc (.cells #[.int .i64 0, .string ⟨#[]⟩, .int .i64 0, .int .i64 0, .int .i64 0, .int .i64 0] 81)).alloc (.cells #[.int .i64 t.k, .string t.x, .int .i64 t.v, .int .i64 t.e, .int .i64 t.l, .int .i64 t.c] 81)) (fun _ z => z.elim)
  have hr0 := (TB.new w 0 ⟨#[]⟩ 0 0 0 0).keep (S := fun _ => False) ((Ex.refl _ _).alloc (.cells #[.int .i64 t.k, .string t.x, .int .i64 t.v, .int .i64 t.e, .int .i64 t.l, .int .i64 t.c] 81)) (fun e => e)
  have HE2 : Hid (Ex (fun k => k = p) w ((w.alloc (.cells #[.int .i64 0, .string ⟨#[]⟩, .int .i64 0, .int .i64 0, .int .i64 0, .int .i64 0] 81)).alloc (.cells #[.int .i64 t.k, .string t.x, .int .i64 t.v, .int .i64 t.e, .int .i64 t.l, .int .i64 t.c] 81))) := ((Ex.refl _ _).alloc _).alloc _
  have HB0 : Hid (B ≤ w.heap.size ∧ p < B) := ⟨H.out.hB, H.out.hp⟩
  clear c4 c5 c6 c7 c8 c9 H HI
  generalize (w.alloc (.cells #[.int .i64 0, .string ⟨#[]⟩, .int .i64 0, .int .i64 0, .int .i64 0, .int .i64 0] 81)).alloc (.cells #[.int .i64 t.k, .string t.x, .int .i64 t.v, .int .i64 t.e, .int .i64 t.l, .int .i64 t.c] 81) = w2 at *
  obtain ⟨r0, hr0e⟩ : ∃ r, w.heap.size = r := ⟨_, rfl⟩
  have HRR : Hid (w.heap.size ≤ r0) := by rw [hr0e]; exact Nat.le_refl _
  rw [hr0e] at hr0 hpl HB0 ⊢
  clear hr0e
  refine (failK_any w2 hi2 5 (by decide)).mono ?_
  rintro e w3 ⟨rfl, hex, hi3⟩
  rw [HSF.out] at hi3
  replace hr0 := hr0.keep hex (by have := HB0.out; omega)
  have HE3 := hide (HE2.out.trans hex)
  clear hi2 hex HE2
  simp only []
  have R0 := hr0.c0
  have R1 := hr0.c1
  have R2 := hr0.c2
  have R3 := hr0.c3
  have R4 := hr0.c4
  have R5 := hr0.c5
  have F0 := hr0.f0
  have F1 := hr0.f1
  have F2 := hr0.f2
  have F3 := hr0.f3
  have F4 := hr0.f4
  have F5 := hr0.f5
  have HFN : Hid (∀ (y0 y1 y2 y3 y4 y5 : Value), InS B p a cp s ((((((w3.setCell ⟨r0, 0, none⟩ y0).setCell ⟨r0, 1, none⟩ y1).setCell ⟨r0, 2, none⟩ y2).setCell ⟨r0, 3, none⟩ y3).setCell ⟨r0, 4, none⟩ y4).setCell ⟨r0, 5, none⟩ y5) sf ∧ Ex (fun k => k = p) w ((((((w3.setCell ⟨r0, 0, none⟩ y0).setCell ⟨r0, 1, none⟩ y1).setCell ⟨r0, 2, none⟩ y2).setCell ⟨r0, 3, none⟩ y3).setCell ⟨r0, 4, none⟩ y4).setCell ⟨r0, 5, none⟩ y5)) := fun y0 y1 y2 y3 y4 y5 =>
    ⟨hi3.ex (S := fun k => k = r0) ((((((((Ex.refl (fun k => k = r0) w3).set (p := r0) (j := 0) rfl y0).set (p := r0) (j := 1) rfl y1).set (p := r0) (j := 2) rfl y2).set (p := r0) (j := 3) rfl y3).set (p := r0) (j := 4) rfl y4).set (p := r0) (j := 5) rfl y5)) (fun k z => by rw [z]; exact HB0.out.1),
     (((((HE3.out.setNew (p := r0) (j := 0) HRR.out y0).setNew (p := r0) (j := 1) HRR.out y1).setNew (p := r0) (j := 2) HRR.out y2).setNew (p := r0) (j := 3) HRR.out y3).setNew (p := r0) (j := 4) HRR.out y4).setNew (p := r0) (j := 5) HRR.out y5⟩
  clear hr0 hi3 HE3
  go_wp2
  exact bodyPost_ret (v := tkV tk00) (by simp [results, Try.results35, go_sem, R0, R1, R2, R3, R4, R5, tkV, tk00]) rfl ⟨rfl, (HFN.out _ _ _ _ _ _).2, (HFN.out _ _ _ _ _ _).1⟩
set_option linter.unusedSimpArgs false in
set_option maxRecDepth 100000 in
set_option maxHeartbeats 4000000 in
/-- parser.take, of the kind at hand -/
theorem takeK_yes (w : World) {k : Nat} {d : Int} (h : InS B p a cp s w (.at k d)) (hk1 : (tks s k).1.k ≠ 1) :
    Calls Try.prog 35 #[.pointer (some ⟨p, 0, none⟩), .int .i64 (tks s k).1.k] w (StP B p a cp s w (tkV (tks s k).1) (.at (k + 1) d)) := by
  have hl : s.length ≤ 1048576 := by
    rcases Nat.lt_or_ge 1048576 s.length with z | z
    · exfalso
      have h0 := h.2 z
      subst h0
      unfold tks at hk1
      rw [if_pos z] at hk1
      exact hk1 rfl
    · exact z
  obtain ⟨hps, hkk0⟩ := h
  have hnx := fun (R : Nat → Option Value) (w' : World) (hx : LX R w' p a cp s (tks s k).2) => nextK_any (R := R) w' p a cp s (tks s k).2 hx hps.ho hl
  have HU : Hid (tks s (k + 1) = nextP s (tks s k).2) := rfl
  generalize hu : nextP s (tks s k).2 = u2 at *
  obtain ⟨u, q2⟩ := u2
  generalize (tks s k).1 = t at *
  generalize (tks s k).2 = q at *
  clear hu
  have H := hide hps
  have HNX := hide hnx
  have c4 := hps.c4
  have c5 := hps.c5
  have c6 := hps.c6
  have c7 := hps.c7
  have c8 := hps.c8
  have c9 := hps.c9
  have hpl : p < w.heap.size := World.block_lt_of_cell? _ _ c4
  clear hps hnx
  have hkk : (t.k != t.k) = false := by simp
  go_enter Try.func35, Try.ntmps35
  go_wp2_with fail
  have hps2 := (H.out.new (.cells #[.int .i64 0, .string ⟨#[]⟩, .int .i64 0, .int .i64 0, .int .i64 0, .int .i64 0] 81)).new (.cells #[.int .i64 t.k, .string t.x, .int .i64 t.v, .int .i64 t.e, .int .i64 t.l, .int .i64 t.c] 81)
  have hr0 := (TB.new w 0 ⟨#[]⟩ 0 0 0 0).keep (S := fun _ => False) ((Ex.refl _ _).alloc (.cells #[.int .i64 t.k, .string t.x, .int .i64 t.v, .int .i64 t.e, .int .i64 t.l, .int .i64 t.c] 81)) (fun e => e)
  have hr1 := TB.new (w.alloc (.cells #[.int .i64 0, .string ⟨#[]⟩, .int .i64 0, .int .i64 0, .int .i64 0, .int .i64 0] 81)) t.k t.x t.v t.e t.l t.c
  rw [show (w.alloc (.cells #[.int .i64 0, .string ⟨#[]⟩, .int .i64 0, .int .i64 0, .int .i64 0, .int .i64 0] 81)).heap.size = w.heap.size + 1 by simp] at hr1
  have HE2 : Hid (Ex (fun k => k = p) w ((w.alloc (.cells #[.int .i64 0, .string ⟨#[]⟩, .int .i64 0, .int .i64 0, .int .i64 0, .int .i64 0] 81)).alloc (.cells #[.int .i64 t.k, .string t.x, .int .i64 t.v, .int .i64 t.e, .int .i64 t.l, .int .i64 t.c] 81))) := ((Ex.refl _ _).alloc _).alloc _
  have HB0 : Hid (B ≤ w.heap.size) := H.out.hB
  clear c4 c5 c6 c7 c8 c9 H
  generalize (w.alloc (.cells #[.int .i64 0, .string ⟨#[]⟩, .int .i64 0, .int .i64 0, .int .i64 0, .int .i64 0] 81)).alloc (.cells #[.int .i64 t.k, .string t.x, .int .i64 t.v, .int .i64 t.e, .int .i64 t.l, .int .i64 t.c] 81) = w2 at *
  obtain ⟨r0, hr0e⟩ : ∃ r, w.heap.size = r := ⟨_, rfl⟩
  have HRR : Hid (w.heap.size ≤ r0) := by rw [hr0e]; exact Nat.le_refl _
  rw [hr0e] at hr0 hr1 hpl HB0 ⊢
  clear hr0e
  refine (HNX.out _ w2 hps2.lx).mono ?_
  rintro e w3 ⟨rfl, hex, hlx, hok⟩
  dsimp only at hlx hok
  have hps3 := hps2.of_lx hex hlx hok
  have HR0 := hide (hr0.keep hex (by omega))
  have HR1 := hide (hr1.keep hex (by omega))
  have HE3 := hide (HE2.out.trans hex)
  have H3 := hide hps3
  clear hps2 hps3 hr0 hr1 HE2 hex hlx HNX hok
  unfold tkV
  simp only []
  have c4 := H3.out.c4
  have c5 := H3.out.c5
  have c6 := H3.out.c6
  have c7 := H3.out.c7
  have c8 := H3.out.c8
  have c9 := H3.out.c9
  have f4 := H3.out.fr 4
  have f5 := H3.out.fr 5
  have f6 := H3.out.fr 6
  have f7 := H3.out.fr 7
  have f8 := H3.out.fr 8
  have f9 := H3.out.fr 9
  go_upto_region 6 with fail
  have HIN : Hid (InS B p a cp s ((((((w3.setCell ⟨p, 4, none⟩ (.int .i64 u.k)).setCell ⟨p, 5, none⟩ (.string u.x)).setCell ⟨p, 6, none⟩ (.int .i64 u.v)).setCell ⟨p, 7, none⟩ (.int .i64 u.e)).setCell ⟨p, 8, none⟩ (.int .i64 u.l)).setCell ⟨p, 9, none⟩ (.int .i64 u.c)) (.at (k + 1) d)) := by
    have := H3.out.tok u
    refine ⟨?_, fun z => by omega⟩
    rw [HU.out]
    exact this
  have EX6 := ((((((Ex.refl (fun k => k = p) w3).set (p := p) (j := 4) rfl (.int .i64 u.k)).set (p := p) (j := 5) rfl (.string u.x)).set (p := p) (j := 6) rfl (.int .i64 u.v)).set (p := p) (j := 7) rfl (.int .i64 u.e)).set (p := p) (j := 8) rfl (.int .i64 u.l)).set (p := p) (j := 9) rfl (.int .i64 u.c)
  have hr0 := HR0.out.keep EX6 (by omega)
  have hr1 := HR1.out.keep EX6 (by omega)
  have he4 := HE3.out.trans EX6
  generalize ((((((w3.setCell ⟨p, 4, none⟩ (.int .i64 u.k)).setCell ⟨p, 5, none⟩ (.string u.x)).setCell ⟨p, 6, none⟩ (.int .i64 u.v)).setCell ⟨p, 7, none⟩ (.int .i64 u.e)).setCell ⟨p, 8, none⟩ (.int .i64 u.l)).setCell ⟨p, 9, none⟩ (.int .i64 u.c)) = w4 at *
  clear c4 c5 c6 c7 c8 c9 f4 f5 f6 f7 f8 f9 H3 HR0 HR1 HE3 EX6
  have R0 := hr0.c0
  have R1 := hr0.c1
  have R2 := hr0.c2
  have R3 := hr0.c3
  have R4 := hr0.c4
  have R5 := hr0.c5
  have F0 := hr0.f0
  have F1 := hr0.f1
  have F2 := hr0.f2
  have F3 := hr0.f3
  have F4 := hr0.f4
  have F5 := hr0.f5
  have T0 := hr1.c0
  have T1 := hr1.c1
  have T2 := hr1.c2
  have T3 := hr1.c3
  have T4 := hr1.c4
  have T5 := hr1.c5
  have HFN : Hid (∀ (y0 y1 y2 y3 y4 y5 : Value), InS B p a cp s ((((((w4.setCell ⟨r0, 0, none⟩ y0).setCell ⟨r0, 1, none⟩ y1).setCell ⟨r0, 2, none⟩ y2).setCell ⟨r0, 3, none⟩ y3).setCell ⟨r0, 4, none⟩ y4).setCell ⟨r0, 5, none⟩ y5) (.at (k + 1) d) ∧ Ex (fun k => k = p) w ((((((w4.setCell ⟨r0, 0, none⟩ y0).setCell ⟨r0, 1, none⟩ y1).setCell ⟨r0, 2, none⟩ y2).setCell ⟨r0, 3, none⟩ y3).setCell ⟨r0, 4, none⟩ y4).setCell ⟨r0, 5, none⟩ y5)) := fun y0 y1 y2 y3 y4 y5 =>
    ⟨HIN.out.ex (S := fun k => k = r0) ((((((((Ex.refl (fun k => k = r0) w4).set (p := r0) (j := 0) rfl y0).set (p := r0) (j := 1) rfl y1).set (p := r0) (j := 2) rfl y2).set (p := r0) (j := 3) rfl y3).set (p := r0) (j := 4) rfl y4).set (p := r0) (j := 5) rfl y5)) (fun k z => by rw [z]; exact HB0.out),
     (((((he4.setNew (p := r0) (j := 0) HRR.out y0).setNew (p := r0) (j := 1) HRR.out y1).setNew (p := r0) (j := 2) HRR.out y2).setNew (p := r0) (j := 3) HRR.out y3).setNew (p := r0) (j := 4) HRR.out y4).setNew (p := r0) (j := 5) HRR.out y5⟩
  clear hr0 hr1 he4 HIN HU
  go_wp2
  exact bodyPost_ret (v := .agg #[.int .i64 t.k, .string t.x, .int .i64 t.v, .int .i64 t.e, .int .i64 t.l, .int .i64 t.c]) (by simp [results, Try.results35, go_sem, R0, R1, R2, R3, R4, R5]) rfl ⟨rfl, (HFN.out _ _ _ _ _ _).2, (HFN.out _ _ _ _ _ _).1⟩
/-- parser.take -/
theorem takeK_any (w : World) {st : PSt} (h : InS B p a cp s w st) (kk : Int) (hk1 : kk ≠ 1) :
    Calls Try.prog 35 #[.pointer (some ⟨p, 0, none⟩), .int .i64 kk] w (StP B p a cp s w (tkV (takeS s kk st).1) (takeS s kk st).2) := by
  obtain ⟨q, t, d, fe, fl, fc, hp, htk, _⟩ := h.pk
  cases st with
  | «at» k d =>
    by_cases hk : (tks s k).1.k = kk
    · have e : takeS s kk (.at k d) = ((tks s k).1, .at (k + 1) d) := by unfold takeS; dsimp only; rw [if_pos hk]
      rw [e]
      subst hk
      exact takeK_yes w h hk1
    · have e : takeS s kk (.at k d) = (tk00, failS s 5 (.at k d)) := by unfold takeS; dsimp only; rw [if_neg hk]
      rw [e]
      exact takeK_no w h kk h.1 (by simpa using hk)
  | bad er l c =>
    obtain ⟨h0, q, t, d, hk, hp⟩ := h
    exact takeK_no w (st := .bad er l c) ⟨h0, q, t, d, hk, hp⟩ kk hp (by rw [hk]; simp; omega)
set_option maxRecDepth 100000 in
set_option maxHeartbeats 4000000 in
/-- parser.accept -/
theorem acceptK_any (w : World) {st : PSt} (h : InS B p a cp s w st) (u : ByteArray) :
    Calls Try.prog 43 #[.pointer (some ⟨p, 0, none⟩), .string u] w (StP B p a cp s w (.bool (acceptS s u st).1) (acceptS s u st).2) := by
  have hat := atK_any w h u
  have HT := hide (takeK_any w h 5 (by decide))
  have HI := hide h
  unfold acceptS
  clear h
  cases hb : atS s u st
  · rw [if_neg (by simp)]
    rw [hb] at hat
    clear hb
    go_enter Try.func43, Try.ntmps43
    go_wp2_with fail
    refine hat.mono ?_
    rintro e w' ⟨rfl, hw⟩
    rw [hw]
    clear hw w'
    go_wp2
    go_ret
    exact ⟨rfl, Ex.refl _ _, HI.out⟩
  · rw [if_pos rfl]
    rw [hb] at hat
    clear hb
    generalize takeS s 5 st = ts at *
    go_enter Try.func43, Try.ntmps43
    go_wp2_with fail
    refine hat.mono ?_
    rintro e w' ⟨rfl, hw⟩
    rw [hw]
    clear hw w'
    go_wp2_with fail
    refine HT.out.mono ?_
    rintro e w' ⟨rfl, hex, hi⟩
    go_wp2
    go_ret
    exact ⟨rfl, hex, hi⟩
set_option maxRecDepth 100000 in
set_option maxHeartbeats 4000000 in
/-- parser.expect -/
theorem expectK_any (w : World) {st : PSt} (h : InS B p a cp s w st) (u : ByteArray) :
    Calls Try.prog 34 #[.pointer (some ⟨p, 0, none⟩), .string u] w (StP B p a cp s w (.tuple #[]) (expectS s u st)) := by
  have hac := acceptK_any w h u
  have HF := hide (failK_any w h 5 (by decide))
  unfold expectS
  unfold acceptS at hac
  cases hb : atS s u st
  · rw [hb, if_neg (by simp)] at hac
    rw [if_neg (by simp)]
    have HFF := hide (fun w' (hi : InS B p a cp s w' st) => failK_any w' hi 5 (by decide))
    generalize failS s 5 st = fs at *
    clear hb h HF
    go_enter Try.func34, Try.ntmps34
    go_wp2_with fail
    refine hac.mono ?_
    rintro e w' ⟨rfl, hex, hi⟩
    go_wp2_with fail
    refine (HFF.out w' hi).mono ?_
    rintro e w2 ⟨rfl, hex2, hi2⟩
    go_wp2
    exact ⟨rfl, .tuple #[], by simp [results, Try.results34], rfl, hex.trans hex2, hi2⟩
  · rw [hb, if_pos rfl] at hac
    rw [if_pos rfl]
    generalize takeS s 5 st = ts at *
    clear hb h HF
    go_enter Try.func34, Try.ntmps34
    go_wp2_with fail
    refine hac.mono ?_
    rintro e w' ⟨rfl, hex, hi⟩
    go_wp2
    exact ⟨rfl, .tuple #[], by simp [results, Try.results34], rfl, hex, hi⟩
end
end Go.Proofs.Qxb6500774a
