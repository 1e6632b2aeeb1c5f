import Derived.Test.Qxb6500774aPp1
namespace Go.Proofs.Qxb6500774a
open Go.RowKit

def fo : Option Int → Int × Int × Int
  | none => (0, 0, 0)
  | some c => (6, 1, c)
theorem ender_prog {e : Tk} (h : isM e ⟨#[69, 78, 68, 95, 80, 82, 79, 71, 82, 65, 77]⟩ = true) : Ender e := ender_of h (by rw [ByteArray.toList_eq]; rfl) (by rw [ByteArray.toList_eq]; rfl) (by rw [ByteArray.toList_eq]; rfl) (by rw [ByteArray.toList_eq]; rfl) (by rw [ByteArray.toList_eq]; rfl)
section
variable {B p : Nat} {a : Option Addr} {cp : Nat} {s : List Int}
theorem take_out {w : World} {d : Int} {t v : Tk} {M : List Tk} {r : Option Int} (h : Out B p a cp s w d (t :: v :: M) r) (ht : t.k = 0) :
    Calls Try.prog 35 #[.pointer (some ⟨p, 0, none⟩), .int .i64 0] w fun e w' => (∃ k, e = .returned (tokV k)) ∧ Ex (fun k => k = p) w w' ∧ Out B p a cp s w' d (v :: M) r := by
  cases r with
  | none =>
    have := take_yes w h
    rw [ht] at this
    exact this.mono fun e w' ⟨h1, h2, h3⟩ => ⟨⟨_, h1⟩, h2, h3⟩
  | some c => exact (take_bad h 0 (by decide)).mono fun e w' ⟨h1, h2, h3⟩ => ⟨⟨_, h1⟩, h2, h3⟩
theorem Out.fault {w : World} {d : Int} {M : List Tk} {r : Option Int} (h : Out B p a cp s w d M r) : w.cell? ⟨p, 11, none⟩ = some (.int .i64 (fo r).1) ∧ w.cell? ⟨p, 12, none⟩ = some (.int .i64 (fo r).2.1) ∧ w.cell? ⟨p, 13, none⟩ = some (.int .i64 (fo r).2.2) := by
  cases r with
  | none =>
    cases M with
    | nil => exact h.elim
    | cons t M =>
      obtain ⟨o, hps, hst⟩ := h
      exact ⟨hps.c11, hps.c12, hps.c13⟩
  | some c =>
    obtain ⟨o, t, d', hps, hk, hf⟩ := h
    exact ⟨hps.c11, hps.c12, hps.c13⟩
end
/-- a block of three cells -/
structure B3 (w : World) (r : Nat) (x y z : Value) : Prop where
  c0 : w.cell? ⟨r, 0, none⟩ = some x
  c1 : w.cell? ⟨r, 1, none⟩ = some y
  c2 : w.cell? ⟨r, 2, none⟩ = some z
  fz : ∀ j, w.frozen? ⟨r, j, none⟩ = false
theorem B3.new (w : World) (x y z : Value) (t : Nat) : B3 (w.alloc (.cells #[x, y, z] t)) w.heap.size x y z := by
  have n := fun j u h => new_cells w [x, y, z] t j u h
  exact ⟨n 0 _ rfl, n 1 _ rfl, n 2 _ rfl, fun j => by simp [go_sem]⟩
theorem B3.keep {w w' : World} {r : Nat} {x y z : Value} (h : B3 w r x y z) {S : Nat → Prop} (ex : Ex S w w') (hr : ¬ S r) : B3 w' r x y z :=
  have hl : r < w.heap.size := World.block_lt_of_cell? _ _ h.c0
  ⟨ex.cell hr h.c0, ex.cell hr h.c1, ex.cell hr h.c2, fun j => (ex.frozen hr hl).trans (h.fz j)⟩
theorem B3.put1 {w : World} {r : Nat} {x y z : Value} (h : B3 w r x y z) (u : Value) : B3 (w.setCell ⟨r, 1, none⟩ u) r x u z := by
  refine ⟨?_, ?_, ?_, fun j => (set_frozen _ _ _ _).trans (h.fz j)⟩
  all_goals simp [go_sem, h.c0, h.c1, h.c2]
theorem B3.put2 {w : World} {r : Nat} {x y z : Value} (h : B3 w r x y z) (u : Value) : B3 (w.setCell ⟨r, 2, none⟩ u) r x y u := by
  refine ⟨?_, ?_, ?_, fun j => (set_frozen _ _ _ _).trans (h.fz j)⟩
  all_goals simp [go_sem, h.c0, h.c1, h.c2]
set_option maxRecDepth 100000 in
set_option maxHeartbeats 4000000 in
/-- ParseProgram on the law's text -/
theorem parse_ok (w : World) (a : Option Addr) (cp : Nat) (s : List Int) (hsrc : SrcAt w a s) (ha : ∀ g off, a = some ⟨g, off, none⟩ → g < w.heap.size) (hl : s.length ≤ 1048576)
    (pr nm sc ep n1 n2 : Tk) (b : Sm) (hst : Str s 0 (pr :: nm :: (smT b ++ sc :: ep :: n1 :: [n2]))) (hpr : isM pr ⟨#[80, 82, 79, 71, 82, 65, 77]⟩ = true) (hnm : nm.k = 2) (hb : b.Ok) (hsc : isM sc ⟨#[59]⟩ = true) (hep : isM ep ⟨#[69, 78, 68, 95, 80, 82, 79, 71, 82, 65, 77]⟩ = true) (hn1 : n1.k = 0) :
    Calls Try.prog 12 #[.slice a s.length cp] w fun e w' => (∃ (x : ByteArray) (sl : Sl), e = .returned (.tuple #[.agg #[.string x, .slice none 0 0, .slice sl.a sl.l sl.c], .agg #[.int .i64 (fo (deepS b 0)).1, .int .i64 (fo (deepS b 0)).2.1, .int .i64 (fo (deepS b 0)).2.2]])) ∧ Ex (fun _ => False) w w' := by
  obtain ⟨y, Y, hY, hNV⟩ := smT_first b hb (sc :: ep :: n1 :: [n2])
  have HY := hide hY
  rw [hY] at hst
  have HNV := hide hNV
  have HPR := hide hpr
  have HNM := hide hnm
  have HB := hide hb
  have HSC := hide hsc
  have HEP := hide hep
  have HN1 := hide hn1
  have hs2 := ((Ex.refl (fun _ => False) w).alloc (.cells #[.string ⟨#[]⟩, .slice none 0 0, .slice none 0 0] 29)).alloc (.cells #[.int .i64 0, .int .i64 0, .int .i64 0] 36)
  have HR0 := hide ((B3.new w (.string ⟨#[]⟩) (.slice none 0 0) (.slice none 0 0) 29).keep (S := fun _ => False) ((Ex.refl _ _).alloc (.cells #[.int .i64 0, .int .i64 0, .int .i64 0] 36)) (fun e => e))
  have hr1 := B3.new (w.alloc (.cells #[.string ⟨#[]⟩, .slice none 0 0, .slice none 0 0] 29)) (.int .i64 0) (.int .i64 0) (.int .i64 0) 36
  rw [show (w.alloc (.cells #[.string ⟨#[]⟩, .slice none 0 0, .slice none 0 0] 29)).heap.size = w.heap.size + 1 by simp] at hr1
  have HR1 := hide hr1
  have HNP := hide (newParser_ok _ a cp s pr (nm :: y :: Y) (fun i c hc => by
    obtain ⟨b', off, e, hx⟩ := hsrc i c hc
    exact ⟨b', off, e, hs2.cell (fun e => e) hx⟩) (fun g off e => Nat.lt_of_lt_of_le (ha g off e) hs2.size) hl hst)
  have HE2 := hide hs2
  clear hs2 hr1 hsrc ha hst hY hNV hpr hnm hb hsc hep hn1
  go_enter Try.func12, Try.ntmps12
  go_upto_region 1 with fail
  go_wp2_with fail
  refine (HNP.out).mono ?_
  rintro e w3 ⟨p, rfl, hex, hwp, hat⟩
  have hwp2 : w.heap.size + 1 < p := by simp at hwp; omega
  have HR03 := hide (HR0.out.keep hex (fun e => e))
  have HR13 := hide (HR1.out.keep hex (fun e => e))
  have HE3 := hide (HE2.out.trans hex)
  have HAT3 := hide hat
  clear hex hat hwp HR0 HR1 HE2 HNP
  obtain ⟨r0, hr0e⟩ : ∃ r, w.heap.size = r := ⟨_, rfl⟩
  have HRR : Hid (w.heap.size ≤ r0) := by rw [hr0e]; exact Nat.le_refl _
  rw [hr0e] at HR03 HR13 hwp2 ⊢
  clear hr0e
  simp only []
  have HXP := hide (expect_yes HAT3.out ⟨#[80, 82, 79, 71, 82, 65, 77]⟩ HPR.out)
  go_upto_region 3 with (go_at_call 34; refine (HXP.out).mono ?_; rintro e w4 ⟨rfl, hex, hat⟩; have HEX := hide hex; have HAT4 := hide hat; clear hex hat; simp only [])
  have HR04 := hide (HR03.out.keep HEX.out (by omega))
  have HR14 := hide (HR13.out.keep HEX.out (by omega))
  have HE4 := hide (HE3.out.trans2 HEX.out (fun j e => .inr (by have := HRR.out; omega)))
  have HT := hide (take_yes _ HAT4.out)
  rw [HNM.out] at HT
  clear HEX HR03 HR13 HE3 HAT3 HXP HAT4
  go_wp2_with fail
  refine (HT.out).mono ?_
  rintro e w5 ⟨rfl, hex, hat⟩
  have hfl := fld81 2 nm.x nm.v nm.e nm.l nm.c w5
  have hs6 := (Ex.refl (fun _ => False) w5).alloc (.cells #[.string nm.x, .slice none 0 0, .slice none 0 0] 29)
  have hpl5 : p < w5.heap.size := by have := hat.hB; omega
  have HR06 := hide ((HR04.out.keep hex (by omega)).keep hs6 (fun e => e))
  have HR16 := hide ((HR14.out.keep hex (by omega)).keep hs6 (fun e => e))
  have HR26 := hide (B3.new w5 (.string nm.x) (.slice none 0 0) (.slice none 0 0) 29)
  have HE6 := hide ((HE4.out.trans2 hex (fun j e => .inr (by have := HRR.out; omega))).trans hs6)
  have HAT6 := hide (hat.ex hs6 (fun _ e => e.elim))
  clear hs6 hex hat HT HR04 HR14 HE4
  unfold tokV
  simp only []
  rw [HNM.out]
  go_upto_region 4 with fail
  generalize w5.alloc (.cells #[.string nm.x, .slice none 0 0, .slice none 0 0] 29) = w6 at *
  generalize w5.heap.size = r2 at *
  clear hfl
  have HBL := hide (blocks_none HAT6.out HNV.out)
  have q1 := HR26.out.c1
  have qf1 := HR26.out.fz 1
  go_upto_region 5 with (go_at_call 36; refine (HBL.out).mono ?_; rintro e wq ⟨rfl, rfl⟩; simp only [])
  have hs7 := (Ex.refl (fun k => k = r2) w6).set (p := r2) (j := 1) rfl (.slice none 0 0)
  have HR07 := hide (HR06.out.keep hs7 (by omega))
  have HR17 := hide (HR16.out.keep hs7 (by omega))
  have HR27 := hide (HR26.out.put1 (.slice none 0 0))
  have HE7 := hide (HE6.out.trans2 hs7 (fun j e => .inr (by have := HRR.out; omega)))
  have HAT7 := hide (HAT6.out.ex hs7 (fun k e => by omega))
  generalize w6.setCell ⟨r2, 1, none⟩ (.slice none 0 0) = w7 at *
  clear hs7 HR06 HR16 HR26 HE6 HAT6 HBL q1 qf1
  have hat7 := HAT7.out
  rw [← HY.out] at hat7
  have HX8 := hide (stmts_all b HB.out w7 0 sc ep (n1 :: [n2]) (by omega) HSC.out (ender_prog HEP.out) hat7)
  clear hat7 HAT7
  go_wp2_with fail
  refine (HX8.out).mono ?_
  rintro e w8 ⟨sl, rfl, hex, hout⟩
  have HR08 := hide (HR07.out.keep hex (by omega))
  have HR18 := hide (HR17.out.keep hex (by omega))
  have HR28 := hide (HR27.out.keep hex (by omega))
  have HE8 := hide (HE7.out.trans2 hex (fun j e => .inr (by have := HRR.out; omega)))
  have HOUT := hide hout
  clear hex hout HR07 HR17 HR27 HE7 HX8
  have q2 := HR28.out.c2
  have qf2 := HR28.out.fz 2
  simp only []
  go_upto_region 6 with fail
  have hs9 := (Ex.refl (fun k => k = r2) w8).set (p := r2) (j := 2) rfl (.slice sl.a sl.l sl.c)
  have HR09 := hide (HR08.out.keep hs9 (by omega))
  have HR19 := hide (HR18.out.keep hs9 (by omega))
  have HR29 := hide (HR28.out.put2 (.slice sl.a sl.l sl.c))
  have HE9 := hide (HE8.out.trans2 hs9 (fun j e => .inr (by have := HRR.out; omega)))
  have HOUT9 := hide (HOUT.out.ex hs9 (fun k e => by omega))
  generalize w8.setCell ⟨r2, 2, none⟩ (.slice sl.a sl.l sl.c) = w9 at *
  clear hs9 HR08 HR18 HR28 HE8 HOUT q2 qf2
  have HXP := hide (expect_out HOUT9.out ⟨#[69, 78, 68, 95, 80, 82, 79, 71, 82, 65, 77]⟩ HEP.out)
  go_upto_region 7 with (go_at_call 34; refine (HXP.out).mono ?_; rintro e w10 ⟨rfl, hex, hout⟩; have HEX := hide hex; have HOUT10 := hide hout; clear hex hout; simp only [])
  have HR010 := hide (HR09.out.keep HEX.out (by omega))
  have HR110 := hide (HR19.out.keep HEX.out (by omega))
  have HR210 := hide (HR29.out.keep HEX.out (by omega))
  have HE10 := hide (HE9.out.trans2 HEX.out (fun j e => .inr (by have := HRR.out; omega)))
  clear HEX HR09 HR19 HR29 HE9 HXP HOUT9
  have HTK := hide (take_out HOUT10.out HN1.out)
  go_upto_region 8 with (go_at_call 35; refine (HTK.out).mono ?_; rintro e w11 ⟨⟨tk, rfl⟩, hex, hout⟩; have HEX := hide hex; have HOUT11 := hide hout; clear hex hout; unfold tokV; simp only [])
  have HR011 := hide (HR010.out.keep HEX.out (by omega))
  have HR111 := hide (HR110.out.keep HEX.out (by omega))
  have HR211 := hide (HR210.out.keep HEX.out (by omega))
  have HE11 := hide (HE10.out.trans2 HEX.out (fun j e => .inr (by have := HRR.out; omega)))
  clear HEX HR010 HR110 HR210 HE10 HTK HOUT10
  have f11 := HOUT11.out.fault.1
  have f12 := HOUT11.out.fault.2.1
  have f13 := HOUT11.out.fault.2.2
  have z0 := HR211.out.c0
  have z1 := HR211.out.c1
  have z2 := HR211.out.c2
  have x0 := HR011.out.c0
  have x1 := HR011.out.c1
  have x2 := HR011.out.c2
  have xf0 := HR011.out.fz 0
  have xf1 := HR011.out.fz 1
  have xf2 := HR011.out.fz 2
  have y0 := HR111.out.c0
  have y1 := HR111.out.c1
  have y2 := HR111.out.c2
  have yf0 := HR111.out.fz 0
  have yf1 := HR111.out.fz 1
  have yf2 := HR111.out.fz 2
  have hne1 : r0 ≠ p := by omega
  have hne2 : r0 + 1 ≠ p := by omega
  go_region
  have HEF := hide (((((((HE11.out.setNew (p := r0) (j := 0) HRR.out (.string nm.x)).setNew (p := r0) (j := 1) HRR.out (.slice none 0 0)).setNew (p := r0) (j := 2) HRR.out (.slice sl.a sl.l sl.c)).setNew (p := r0 + 1) (j := 0) (by have := HRR.out; omega) (.int .i64 (fo (deepS b 0)).1)).setNew (p := r0 + 1) (j := 1) (by have := HRR.out; omega) (.int .i64 (fo (deepS b 0)).2.1)).setNew (p := r0 + 1) (j := 2) (by have := HRR.out; omega) (.int .i64 (fo (deepS b 0)).2.2)).drew)
  go_wp2
  exact bodyPost_ret (v := .tuple #[.agg #[.string nm.x, .slice none 0 0, .slice sl.a sl.l sl.c], .agg #[.int .i64 (fo (deepS b 0)).1, .int .i64 (fo (deepS b 0)).2.1, .int .i64 (fo (deepS b 0)).2.2]]) (by simp [results, Try.results12, go_sem, x0, x1, x2, y0, y1, y2]) rfl ⟨⟨_, _, rfl⟩, HEF.out⟩
end Go.Proofs.Qxb6500774a
