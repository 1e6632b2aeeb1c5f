import Derived.Test.Qxb6500774aKw0
namespace Go.Proofs.Qxb6500774a
open Go.RowKit
set_option linter.unusedVariables false
set_option linter.unusedSimpArgs false

section
variable {B p : Nat} {a : Option Addr} {cp : Nat} {s : List Int}
structure P3 (w : World) (r : Nat) (x : ByteArray) (vd vb : SLc) : Prop where
  c0 : w.cell? ⟨r, 0, none⟩ = some (.string x)
  c1 : w.cell? ⟨r, 1, none⟩ = some (.slice vd.q vd.n vd.c)
  c2 : w.cell? ⟨r, 2, none⟩ = some (.slice vb.q vb.n vb.c)
  fz : ∀ j, w.frozen? ⟨r, j, none⟩ = false
theorem P3.lt {w : World} {r : Nat} {x : ByteArray} {vd vb : SLc} (h : P3 w r x vd vb) : r < w.heap.size := World.block_lt_of_cell? _ _ h.c0
theorem P3.keep {w w' : World} {r : Nat} {x : ByteArray} {vd vb : SLc} (h : P3 w r x vd vb) {T : Nat → Prop} (ex : Ex T w w') (hr : ¬ T r) : P3 w' r x vd vb := ⟨ex.cell hr h.c0, ex.cell hr h.c1, ex.cell hr h.c2, fun j => (ex.frozen hr h.lt).trans (h.fz j)⟩
theorem P3.new (w : World) (x : ByteArray) : P3 (w.alloc (.cells #[.string x, .slice none 0 0, .slice none 0 0] 29)) w.heap.size x nl nl := by
  have n := fun j u h => new_cells w [.string x, .slice none 0 0, .slice none 0 0] 29 j u h
  exact ⟨n 0 _ rfl, n 1 _ rfl, n 2 _ rfl, fun j => by simp [go_sem]⟩
theorem P3.put1 {w : World} {r : Nat} {x : ByteArray} {vd vb : SLc} (h : P3 w r x vd vb) (v : SLc) : P3 (w.setCell ⟨r, 1, none⟩ (.slice v.q v.n v.c)) r x v vb := by
  refine ⟨?_, ?_, ?_, fun j => by rw [set_frozen]; exact h.fz j⟩
  all_goals simp [go_sem, h.c0, h.c1, h.c2]
theorem P3.put2 {w : World} {r : Nat} {x : ByteArray} {vd vb : SLc} (h : P3 w r x vd vb) (v : SLc) : P3 (w.setCell ⟨r, 2, none⟩ (.slice v.q v.n v.c)) r x vd v := by
  refine ⟨?_, ?_, ?_, fun j => by rw [set_frozen]; exact h.fz j⟩
  all_goals simp [go_sem, h.c0, h.c1, h.c2]
def bPRG : ByteArray := ⟨#[80, 82, 79, 71, 82, 65, 77]⟩
def bEPR : ByteArray := ⟨#[69, 78, 68, 95, 80, 82, 79, 71, 82, 65, 77]⟩
structure Pg where
  nm : ByteArray
  ds : List Dc
  bd : S
/-- ParseProgram, plain -/
def pprog (s : List Int) (n : Nat) : Option (Pg × PSt) := match pbl s n .outer (takeS s 2 (expectS s bPRG (.at 0 0))).2 with
  | none => none
  | some (L, st3) => match ps s n .stmts st3 with
    | none => none
    | some (A, st4) => some (⟨(takeS s 2 (expectS s bPRG (.at 0 0))).1.x, L, A⟩, (takeS s 0 (expectS s bEPR st4)).2)
def fltV : PSt → Value
  | .at _ _ => .agg #[.int .i64 0, .int .i64 0, .int .i64 0]
  | .bad er l c => .agg #[.int .i64 er, .int .i64 l, .int .i64 c]
def erOf : PSt → Int
  | .at _ _ => 0
  | .bad er _ _ => er
/-- a program in memory -/
def PGM (w : World) (D : Nat → Prop) (P : Pg) (vd vb : SLc) : Prop := ∃ F G, RW w D F vd ∧ DS w D P.ds F ∧ RW w D G vb ∧ SS w D P.bd false G
def PrPost (w : World) (R : Pg × PSt) (e : Ending) (w' : World) : Prop := ∃ (x : ByteArray) (vd vb : SLc), e = .returned (.tuple #[.agg #[.string x, slV vd, slV vb], fltV R.2]) ∧ Ex (fun _ => False) w w' ∧ (isB R.2 → erOf R.2 ≠ 0) ∧ (isAt R.2 → x = R.1.nm ∧ PGM w' (fun k => k < w.heap.size) R.1 vd vb)
theorem InS.flt {B p : Nat} {w : World} {st : PSt} (h : InS B p a cp s w st) : ∃ fe fl fc, w.cell? ⟨p, 11, none⟩ = some (.int .i64 fe) ∧ w.cell? ⟨p, 12, none⟩ = some (.int .i64 fl) ∧ w.cell? ⟨p, 13, none⟩ = some (.int .i64 fc) ∧ fltV st = .agg #[.int .i64 fe, .int .i64 fl, .int .i64 fc] ∧ (isB st → erOf st ≠ 0) := by
  cases st with
  | «at» k d => exact ⟨0, 0, 0, h.1.c11, h.1.c12, h.1.c13, rfl, fun z => z.elim⟩
  | bad er l c =>
    obtain ⟨he, q, t, d, ht, hp⟩ := h
    exact ⟨er, l, c, hp.c11, hp.c12, hp.c13, rfl, fun _ => he⟩
set_option linter.unusedSimpArgs false in
set_option linter.unusedVariables false in
set_option maxRecDepth 100000 in
set_option maxHeartbeats 32000000 in
theorem progK (n : Nat) (hn : n < 4294967296) (R : Pg × PSt) (w : World) (hpj : pprog s n = some R) (hsrc : SrcAt w a s) (ha : ∀ (i : Nat) c, s[i]? = some c → ∀ g off, a = some ⟨g, off, none⟩ → g < w.heap.size) (hl2 : s.length ≤ 4611686018427387904) :
    Calls Try.prog 12 #[.slice a s.length cp] w (PrPost w R) := by
  have HN := hide hn
  have e1 : Ex (fun _ => False) w ((w.alloc (.cells #[.string ⟨#[]⟩, .slice none 0 0, .slice none 0 0] 29)).alloc (.cells #[.int .i64 0, .int .i64 0, .int .i64 0] 36)) := ((Ex.refl _ _).alloc _).alloc _
  have HNP := hide (newParserK (a := a) (cp := cp) (s := s) ((w.alloc (.cells #[.string ⟨#[]⟩, .slice none 0 0, .slice none 0 0] 29)).alloc (.cells #[.int .i64 0, .int .i64 0, .int .i64 0] 36)) (fun i c hc => by
    obtain ⟨b, off, e, hx⟩ := hsrc i c hc
    exact ⟨b, off, e, e1.cell (fun z => z) hx⟩) (fun i c hc g off e => by have := ha i c hc g off e; have := e1.size; omega) hl2)
  have n2 := fun j u h => new_cells w [.string ⟨#[]⟩, .slice none 0 0, .slice none 0 0] 29 j u h
  have n3 := fun j u h => new_cells (w.alloc (.cells #[.string ⟨#[]⟩, .slice none 0 0, .slice none 0 0] 29)) [.int .i64 0, .int .i64 0, .int .i64 0] 36 j u h
  have hs1 : (w.alloc (.cells #[.string ⟨#[]⟩, .slice none 0 0, .slice none 0 0] 29)).heap.size = w.heap.size + 1 := by simp
  have HZ : Hid (∀ wz, Ex (fun _ => False) ((w.alloc (.cells #[.string ⟨#[]⟩, .slice none 0 0, .slice none 0 0] 29)).alloc (.cells #[.int .i64 0, .int .i64 0, .int .i64 0] 36)) wz → (wz.cell? ⟨w.heap.size, 0, none⟩ = some (.string ⟨#[]⟩) ∧ wz.cell? ⟨w.heap.size, 1, none⟩ = some (.slice none 0 0) ∧ wz.cell? ⟨w.heap.size, 2, none⟩ = some (.slice none 0 0) ∧ wz.cell? ⟨w.heap.size + 1, 0, none⟩ = some (.int .i64 0) ∧ wz.cell? ⟨w.heap.size + 1, 1, none⟩ = some (.int .i64 0) ∧ wz.cell? ⟨w.heap.size + 1, 2, none⟩ = some (.int .i64 0)) ∧ (∀ j, wz.frozen? ⟨w.heap.size, j, none⟩ = false) ∧ (∀ j, wz.frozen? ⟨w.heap.size + 1, j, none⟩ = false)) := fun wz ex => by
    have m2 := fun j u h => ex.cell (fun z => z) (((Ex.refl (fun _ => False) (w.alloc (.cells #[.string ⟨#[]⟩, .slice none 0 0, .slice none 0 0] 29))).alloc (.cells #[.int .i64 0, .int .i64 0, .int .i64 0] 36)).cell (fun z => z) (by have := n2 j u h; rw [show (⟨w.heap.size, 0, none⟩ : Addr).add j = ⟨w.heap.size, j, none⟩ by unfold Addr.add; split <;> simp_all] at this; exact this))
    have m3 := fun j u h => ex.cell (fun z => z) (by have := n3 j u h; rw [show (⟨(w.alloc (.cells #[.string ⟨#[]⟩, .slice none 0 0, .slice none 0 0] 29)).heap.size, 0, none⟩ : Addr).add j = ⟨(w.alloc (.cells #[.string ⟨#[]⟩, .slice none 0 0, .slice none 0 0] 29)).heap.size, j, none⟩ by unfold Addr.add; split <;> simp_all] at this; exact this)
    rw [hs1] at m3
    refine ⟨⟨m2 0 _ rfl, m2 1 _ rfl, m2 2 _ rfl, m3 0 _ rfl, m3 1 _ rfl, m3 2 _ rfl⟩, fun j => (ex.frozen (fun z => z) (by simp; omega)).trans (by simp [go_sem]), fun j => (ex.frozen (fun z => z) (by simp)).trans (by rw [← hs1]; simp [go_sem])⟩
  have HE1 := hide e1
  obtain ⟨L, st3, A, st4, hp1, hp2, hr⟩ : ∃ L st3 A st4, pbl s n .outer (takeS s 2 (expectS s bPRG (.at 0 0))).2 = some (L, st3) ∧ ps s n .stmts st3 = some (A, st4) ∧ (⟨(takeS s 2 (expectS s bPRG (.at 0 0))).1.x, L, A⟩, (takeS s 0 (expectS s bEPR st4)).2) = R := by
    unfold pprog at hpj
    split at hpj
    · cases hpj
    · next L st3 h1 =>
      split at hpj
      · cases hpj
      · next A st4 h2 => injection hpj with hpj; exact ⟨L, st3, A, st4, h1, h2, hpj⟩
  have hd0 : (0 : Int) ≤ 0 ∧ (0 : Int) ≤ 64 := ⟨by omega, by omega⟩
  have hda1 : DA 0 (takeS s 2 (expectS s bPRG (.at 0 0))).2 := takeS_da (expectS_da (show DA 0 (.at 0 0) from rfl) _) 2
  have hda3 : DA 0 st3 := pbl_da s _ _ _ _ _ hp1 hda1
  have hda4 : DA 0 st4 := ps_da s _ _ _ _ _ hp2 hda3
  have HA3 : Hid (isAt st4 → isAt st3) := fun z => isAt.ps hp2 hda3 hd0 z
  have HA4 : Hid (isAt (takeS s 0 (expectS s bEPR st4)).2 → isAt st4) := fun z => isAt.ex (isAt.take z).1
  have HCB : Hid (∀ (p : Nat) wz, InS (p + 1) p a cp s wz (takeS s 2 (expectS s bPRG (.at 0 0))).2 → Calls Try.prog 36 #[.pointer (some ⟨p, 0, none⟩)] wz (BPost (p + 1) p a cp s wz (L, st3))) := fun p wz hz => blocksK n (by omega) _ _ wz hp1 hz 0 hd0 hda1
  have HCS : Hid (∀ (p : Nat) wz, InS (p + 1) p a cp s wz st3 → Calls Try.prog 37 #[.pointer (some ⟨p, 0, none⟩)] wz (LPost (p + 1) p a cp s wz (A, st4))) := fun p wz hz => stmts_any wz hn hp2 hz (hda3.ok hd0)
  have HC1 : Hid (∀ (p : Nat) wz, InS (p + 1) p a cp s wz (.at 0 0) → _) := fun p wz hz => expectK_any (B := p + 1) (p := p) wz hz bPRG
  have HC2 : Hid (∀ (p : Nat) wz, InS (p + 1) p a cp s wz (expectS s bPRG (.at 0 0)) → _) := fun p wz hz => takeK_any (B := p + 1) (p := p) wz hz 2 (by decide)
  have HC5 : Hid (∀ (p : Nat) wz, InS (p + 1) p a cp s wz st4 → _) := fun p wz hz => expectK_any (B := p + 1) (p := p) wz hz bEPR
  have HC6 : Hid (∀ (p : Nat) wz, InS (p + 1) p a cp s wz (expectS s bEPR st4) → _) := fun p wz hz => takeK_any (B := p + 1) (p := p) wz hz 0 (by decide)
  have HRR := hide hr
  clear hpj hp1 hp2 hr hda1 hda3 hda4 hd0 hsrc ha hl2 hn n2 n3 hs1 e1
  generalize (takeS s 0 (expectS s bEPR st4)).2 = st6 at *
  generalize (takeS s 0 (expectS s bEPR st4)).1 = t6 at *
  generalize expectS s bEPR st4 = st5 at *
  generalize (takeS s 2 (expectS s bPRG (.at 0 0))).2 = st2 at *
  generalize (takeS s 2 (expectS s bPRG (.at 0 0))).1 = t2 at *
  generalize expectS s bPRG (.at 0 0) = st1 at *
  obtain ⟨x, hx⟩ : ∃ x, t2.x = x := ⟨_, rfl⟩
  rw [hx] at HRR
  unfold bPRG at HC1
  unfold bEPR at HC5
  have HS0 : Hid (w.heap.size + 2 ≤ ((w.alloc (.cells #[.string ⟨#[]⟩, .slice none 0 0, .slice none 0 0] 29)).alloc (.cells #[.int .i64 0, .int .i64 0, .int .i64 0] 36)).heap.size) := by show _ ≤ _; simp
  go_enter Try.func12, Try.ntmps12
  go_wp2_with fail
  refine HNP.out.mono ?_
  rintro e9 w2 ⟨p, rfl, hex, hp, hi⟩
  have HI := hide hi
  have HX := hide hex
  have HP : Hid (((w.alloc (.cells #[.string ⟨#[]⟩, .slice none 0 0, .slice none 0 0] 29)).alloc (.cells #[.int .i64 0, .int .i64 0, .int .i64 0] 36)).heap.size ≤ p ∧ w.heap.size + 2 ≤ ((w.alloc (.cells #[.string ⟨#[]⟩, .slice none 0 0, .slice none 0 0] 29)).alloc (.cells #[.int .i64 0, .int .i64 0, .int .i64 0] 36)).heap.size) := ⟨hp, HS0.out⟩
  clear hex hp hi HNP HS0
  simp only []
  generalize ((w.alloc (.cells #[.string ⟨#[]⟩, .slice none 0 0, .slice none 0 0] 29)).alloc (.cells #[.int .i64 0, .int .i64 0, .int .i64 0] 36)) = w1 at *
  have HR : Hid (∃ r2 r3, w.heap.size = r2 ∧ w.heap.size + 1 = r3) := ⟨_, _, rfl, rfl⟩
  obtain ⟨r2, r3, hr2, hr3⟩ := HR.out
  have HR2 : Hid (r2 = w.heap.size ∧ r3 = w.heap.size + 1) := ⟨hr2.symm, hr3.symm⟩
  rw [hr3, hr2] at HZ
  rw [hr3, hr2]
  clear hr2 hr3 HR
  go_upto_region 2 with fail
  go_wp2_with fail
  refine (HC1.out p w2 HI.out).mono ?_
  rintro e9 w3 ⟨rfl, hex, hi⟩
  have HI3 := hide hi
  have HX3 : Hid (Ex (fun _ => False) w1 w3) := HX.out.trans2 hex (fun k z => .inr (by have := HP.out; omega))
  clear hex hi HI HX HC1
  simp only []
  go_upto_region 3 with fail
  go_wp2_with fail
  refine (HC2.out p w3 HI3.out).mono ?_
  rintro e9 w4 ⟨rfl, hex, hi⟩
  have HX4 : Hid (Ex (fun _ => False) w1 w4) := HX3.out.trans2 hex (fun k z => .inr (by have := HP.out; omega))
  have ex5 : Ex (fun _ => False) w4 (w4.alloc (.cells #[.string x, .slice none 0 0, .slice none 0 0] 29)) := (Ex.refl _ _).alloc _
  have HX5 : Hid (Ex (fun _ => False) w1 (w4.alloc (.cells #[.string x, .slice none 0 0, .slice none 0 0] 29))) := HX4.out.trans ex5
  have HI5 : Hid (InS (p + 1) p a cp s (w4.alloc (.cells #[.string x, .slice none 0 0, .slice none 0 0] 29)) st2) := hi.ex ex5 (fun _ z => z.elim)
  have HK5 : Hid (P3 (w4.alloc (.cells #[.string x, .slice none 0 0, .slice none 0 0] 29)) w4.heap.size x nl nl ∧ (p < w4.heap.size ∧ w1.heap.size ≤ w4.heap.size)) := ⟨P3.new w4 x, hi.hB.1, HX4.out.size⟩
  have hfl := fld81 t2 w4
  unfold tkV at hfl ⊢
  rw [hx] at hfl ⊢
  clear hex hi HI3 HX3 HC2 ex5 hx HX4
  simp only []
  go_upto_region 4 with fail
  generalize w4.alloc (.cells #[.string x, .slice none 0 0, .slice none 0 0] 29) = w5 at *
  obtain ⟨r5, hr5⟩ : ∃ r, w4.heap.size = r := ⟨_, rfl⟩
  rw [hr5] at HK5 ⊢
  clear hfl hr5
  -- blocks
  go_wp2_with fail
  refine (HCB.out p w5 HI5.out).mono ?_
  rintro e9 w6 ⟨vd, rfl, hex, hi, hti⟩
  have HP5 : Hid (p < r5 ∧ r5 < w5.heap.size ∧ w1.heap.size ≤ r5) := ⟨HK5.out.2.1, HK5.out.1.lt, HK5.out.2.2⟩
  have HX6 : Hid (Ex (fun _ => False) w1 w6) := HX5.out.trans2 hex (fun k z => .inr (by have := HP.out; omega))
  have HK6 : Hid (P3 w6 r5 x nl nl) := HK5.out.1.keep hex (by have := HP5.out; omega)
  have y1 := HK6.out.c1
  have yf1 := HK6.out.fz 1
  have ex7 : Ex (fun k => k = r5) w6 (w6.setCell ⟨r5, 1, none⟩ (.slice vd.q vd.n vd.c)) := (Ex.refl (fun k => k = r5) _).set (p := r5) rfl _
  have HI7 : Hid (InS (p + 1) p a cp s (w6.setCell ⟨r5, 1, none⟩ (.slice vd.q vd.n vd.c)) st3) := hi.ex ex7 (fun k z => by have := HP5.out; omega)
  have HX7 : Hid (Ex (fun _ => False) w1 (w6.setCell ⟨r5, 1, none⟩ (.slice vd.q vd.n vd.c))) := HX6.out.trans2 ex7 (fun k z => .inr (by have := HP5.out; omega))
  have HK7 := hide (HK6.out.put1 vd)
  have HD7 : Hid (isAt st3 → ∃ F, RW (w6.setCell ⟨r5, 1, none⟩ (.slice vd.q vd.n vd.c)) (fun k => k < w5.heap.size) F vd ∧ DS (w6.setCell ⟨r5, 1, none⟩ (.slice vd.q vd.n vd.c)) (fun k => k < w5.heap.size) L F) := fun z => by
    obtain ⟨F, h1, h2⟩ := hti z
    exact ⟨F, h1.keep ex7 (fun k z => .inl (by have := HP5.out; omega)) (fun _ z => .inl z), h2.keep ex7 (fun k z => .inl (by have := HP5.out; omega)) (fun _ z => .inl z)⟩
  have HS7 : Hid (w5.heap.size ≤ (w6.setCell ⟨r5, 1, none⟩ (.slice vd.q vd.n vd.c)).heap.size) := Nat.le_trans hex.size ex7.size
  clear hex hi hti HI5 HX5 HK5 HX6 HK6 ex7 HCB
  unfold slV
  simp only []
  unfold nl at y1
  dsimp only at y1
  go_upto_region 5 with fail
  generalize w6.setCell ⟨r5, 1, none⟩ (.slice vd.q vd.n vd.c) = w7 at *
  clear y1 yf1
  -- stmts
  go_wp2_with fail
  refine (HCS.out p w7 HI7.out).mono ?_
  rintro e9 w8 ⟨vb, rfl, hex, hi, hti⟩
  have HX8 : Hid (Ex (fun _ => False) w1 w8) := HX7.out.trans2 hex (fun k z => .inr (by have := HP.out; omega))
  have HK8 : Hid (P3 w8 r5 x vd nl) := HK7.out.keep hex (by have := HP5.out; omega)
  have y2 := HK8.out.c2
  have yf2 := HK8.out.fz 2
  have ex9 : Ex (fun k => k = r5) w8 (w8.setCell ⟨r5, 2, none⟩ (.slice vb.q vb.n vb.c)) := (Ex.refl (fun k => k = r5) _).set (p := r5) rfl _
  have HI9 : Hid (InS (p + 1) p a cp s (w8.setCell ⟨r5, 2, none⟩ (.slice vb.q vb.n vb.c)) st4) := hi.ex ex9 (fun k z => by have := HP5.out; omega)
  have HX9 : Hid (Ex (fun _ => False) w1 (w8.setCell ⟨r5, 2, none⟩ (.slice vb.q vb.n vb.c))) := HX8.out.trans2 ex9 (fun k z => .inr (by have := HP5.out; omega))
  have HK9 := hide (HK8.out.put2 vb)
  have HT9 : Hid (isAt st4 → PGM (w8.setCell ⟨r5, 2, none⟩ (.slice vb.q vb.n vb.c)) (fun k => k < w5.heap.size) ⟨x, L, A⟩ vd vb) := fun z => by
    obtain ⟨F, h1, h2⟩ := HD7.out (HA3.out z)
    obtain ⟨G, h3, h4⟩ := hti z
    have hb : ∀ k, k = r5 → k < w5.heap.size ∨ w8.heap.size ≤ k := fun k z => .inl (by have := HP5.out; omega)
    have hb2 : ∀ k, k = p → k < w5.heap.size ∨ w7.heap.size ≤ k := fun k z => .inl (by have := HP5.out; omega)
    have hb3 : ∀ k, k = r5 → k < w7.heap.size ∨ w8.heap.size ≤ k := fun k z => .inl (by have := HP5.out; have := HS7.out; omega)
    have hD : ∀ k, k < w5.heap.size → k < w7.heap.size ∨ w8.heap.size ≤ k := fun k z => .inl (by have := HS7.out; omega)
    exact ⟨F, G, (h1.keep hex hb2 (fun _ z => .inl z)).keep ex9 hb (fun _ z => .inl z), (h2.keep hex hb2 (fun _ z => .inl z)).keep ex9 hb (fun _ z => .inl z), h3.keep ex9 hb3 hD, h4.keep ex9 hb3 hD⟩
  clear hex hi hti HI7 HX7 HK7 HX8 HK8 ex9 HCS HD7
  unfold slV
  simp only []
  unfold nl at y2
  dsimp only at y2
  go_upto_region 6 with fail
  generalize w8.setCell ⟨r5, 2, none⟩ (.slice vb.q vb.n vb.c) = w9 at *
  clear y2 yf2
  go_wp2_with fail
  refine (HC5.out p w9 HI9.out).mono ?_
  rintro e9 w10 ⟨rfl, hex, hi⟩
  have HI10 := hide hi
  have HX10 : Hid (Ex (fun _ => False) w1 w10 ∧ Ex (fun k => k = p) w9 w10) := ⟨HX9.out.trans2 hex (fun k z => .inr (by have := HP.out; omega)), hex⟩
  clear hex hi HI9 HX9 HC5
  simp only []
  go_upto_region 7 with fail
  go_wp2_with fail
  refine (HC6.out p w10 HI10.out).mono ?_
  rintro e9 w11 ⟨rfl, hex, hi⟩
  have HX11 : Hid (Ex (fun _ => False) w1 w11) := (HX10.out.1.trans2 hex (fun k z => .inr (by have := HP.out; omega)))
  have ex12 : Ex (fun k => k = p) w9 w11 := (HX10.out.2.trans hex)
  have HK11 : Hid (P3 w11 r5 x vd vb) := HK9.out.keep ex12 (by have := HP5.out; omega)
  have HT11 : Hid (isAt st6 → PGM w11 (fun k => k < w5.heap.size) ⟨x, L, A⟩ vd vb) := fun z => by
    obtain ⟨F, G, h1, h2, h3, h4⟩ := HT9.out (HA4.out z)
    have hb : ∀ k, k = p → k < w5.heap.size ∨ w9.heap.size ≤ k := fun k z => .inl (by have := HP5.out; omega)
    exact ⟨F, G, h1.keep ex12 hb (fun _ z => .inl z), h2.keep ex12 hb (fun _ z => .inl z), h3.keep ex12 hb (fun _ z => .inl z), h4.keep ex12 hb (fun _ z => .inl z)⟩
  obtain ⟨fe, fl, fc, g1, g2, g3, hfv, hfe⟩ := hi.flt
  have HFV := hide hfv
  have HFE := hide hfe
  obtain ⟨⟨a0, a1, a2, b0, b1, b2⟩, fz2, fz3⟩ := HZ.out w11 HX11.out
  have aF0 := fz2 0
  have aF1 := fz2 1
  have aF2 := fz2 2
  have bF0 := fz3 0
  have bF1 := fz3 1
  have bF2 := fz3 2
  have k0 := HK11.out.c0
  have k1 := HK11.out.c1
  have k2 := HK11.out.c2
  have hne : r2 ≠ r3 ∧ r2 ≠ r5 ∧ r3 ≠ r5 ∧ r2 ≠ p ∧ r3 ≠ p := by have := HP.out; have := HP5.out; have := HR2.out; omega
  obtain ⟨n1, n2, n3, n4, n5⟩ := hne
  have HFIN : Hid (∀ wz, Ex (fun k => k = r2 ∨ k = r3) w11 wz → PrPost w R (.returned (.tuple #[.agg #[.string x, slV vd, slV vb], fltV st6])) wz) := fun wz ex => by
    rw [← HRR.out]
    have hr := HR2.out
    have hp := HP.out
    have hp5 := HP5.out
    refine ⟨x, vd, vb, rfl, (HE1.out.trans HX11.out).trans2 ex (fun k z => .inr (by omega)), HFE.out, fun z => ⟨rfl, ?_⟩⟩
    obtain ⟨F, G, h1, h2, h3, h4⟩ := HT11.out z
    have hb : ∀ k, k = r2 ∨ k = r3 → k < w5.heap.size ∨ w11.heap.size ≤ k := fun k z => .inl (by omega)
    have hD : ∀ k, k < w.heap.size → k < w5.heap.size ∨ w11.heap.size ≤ k := fun k z => .inl (by omega)
    exact ⟨F, G, h1.keep ex hb hD, h2.keep ex hb hD, h3.keep ex hb hD, h4.keep ex hb hD⟩
  clear hex hi HI10 HX10 HC6 HK9 HT9 ex12 HX11 HK11 HT11 hfv hfe fz2 fz3
  unfold tkV
  simp only []
  go_upto_region 8 with fail
  have exz : Ex (fun k => k = r2 ∨ k = r3) w11 ((((((w11.setCell ⟨r2, 0, none⟩ (.string x)).setCell ⟨r2, 1, none⟩ (.slice vd.q vd.n vd.c)).setCell ⟨r2, 2, none⟩ (.slice vb.q vb.n vb.c)).setCell ⟨r3, 0, none⟩ (.int .i64 fe)).setCell ⟨r3, 1, none⟩ (.int .i64 fl)).setCell ⟨r3, 2, none⟩ (.int .i64 fc)).drew := (((((((Ex.refl (fun k => k = r2 ∨ k = r3) w11).set (p := r2) (.inl rfl) _).set (p := r2) (.inl rfl) _).set (p := r2) (.inl rfl) _).set (p := r3) (.inr rfl) _).set (p := r3) (.inr rfl) _).set (p := r3) (.inr rfl) _).drew
  have HLAST := hide (HFIN.out _ exz)
  rw [HFV.out] at HLAST
  unfold slV at HLAST
  clear exz HFIN
  go_region
  go_wp2
  exact bodyPost_ret (by simp [results, Try.results12, go_sem, a0, a1, a2, b0, b1, b2, n1, Ne.symm n1]) rfl HLAST.out
end
end Go.Proofs.Qxb6500774a
