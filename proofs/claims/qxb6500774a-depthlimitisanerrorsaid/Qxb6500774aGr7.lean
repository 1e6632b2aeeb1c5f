import Derived.Test.Qxb6500774aGr6
namespace Go.Proofs.Qxb6500774a
open Go.RowKit

/-! ### The law's statements -/
inductive Sm where
  | asg (x ae : Tk) (its : List It) (n : Tk)
  | ifs (i x th : Tk) (b : Sm) (sc ei : Tk)
  | fors (f nm ae z t1 o d1 : Tk) (b : Sm) (sc ef : Tk)
def Sm.Ok : Sm → Prop
  | .asg x ae its n => x.k = 2 ∧ isM ae ⟨#[58, 61]⟩ = true ∧ (∀ i ∈ its, i.Ok) ∧ (n.k = 2 ∨ n.k = 3)
  | .ifs i x th b sc ei => isM i ⟨#[73, 70]⟩ = true ∧ i.l = 1 ∧ x.k = 2 ∧ isM th ⟨#[84, 72, 69, 78]⟩ = true ∧ b.Ok ∧ isM sc ⟨#[59]⟩ = true ∧ isM ei ⟨#[69, 78, 68, 95, 73, 70]⟩ = true
  | .fors f nm ae z t1 o d1 b sc ef => isM f ⟨#[70, 79, 82]⟩ = true ∧ f.l = 1 ∧ nm.k = 2 ∧ isM ae ⟨#[58, 61]⟩ = true ∧ z.k = 3 ∧ isM t1 ⟨#[84, 79]⟩ = true ∧ o.k = 3 ∧ isM d1 ⟨#[68, 79]⟩ = true ∧ b.Ok ∧ isM sc ⟨#[59]⟩ = true ∧ isM ef ⟨#[69, 78, 68, 95, 70, 79, 82]⟩ = true
def smT : Sm → List Tk
  | .asg x ae its n => x :: ae :: toks its n
  | .ifs i x th b sc ei => i :: x :: th :: (smT b ++ [sc, ei])
  | .fors f nm ae z t1 o d1 b sc ef => f :: nm :: ae :: z :: t1 :: o :: d1 :: (smT b ++ [sc, ef])
def deepS : Sm → Int → Option Int
  | .asg _ _ its _, d => deepAt its d
  | .ifs i _ _ b _ _, d => if 64 ≤ d then some i.c else deepS b (d + 1)
  | .fors f _ _ _ _ _ _ b _ _, d => if 64 ≤ d then some f.c else deepS b (d + 1)
/-- What ends a list of statements. -/
def Ender (e : Tk) : Prop := (e.k == 2) = false ∧ isM e ⟨#[73, 70]⟩ = false ∧ isM e ⟨#[70, 79, 82]⟩ = false ∧ isM e ⟨#[82, 85, 78, 71]⟩ = false ∧ isM e ⟨#[69, 76, 83, 73, 70]⟩ = false ∧ isM e ⟨#[69, 76, 83, 69]⟩ = false
theorem ender_of {e : Tk} {x : ByteArray} (h : isM e x = true) (h1 : (x.toList == [73, 70]) = false) (h2 : (x.toList == [70, 79, 82]) = false) (h3 : (x.toList == [82, 85, 78, 71]) = false) (h4 : (x.toList == [69, 76, 83, 73, 70]) = false) (h5 : (x.toList == [69, 76, 83, 69]) = false) : Ender e := by
  refine ⟨by rw [isM_k h]; rfl, isM_ne h ?_, isM_ne h ?_, isM_ne h ?_, isM_ne h ?_, isM_ne h ?_⟩
  · rw [ByteArray.toList_eq ⟨#[73, 70]⟩]; exact h1
  · rw [ByteArray.toList_eq ⟨#[70, 79, 82]⟩]; exact h2
  · rw [ByteArray.toList_eq ⟨#[82, 85, 78, 71]⟩]; exact h3
  · rw [ByteArray.toList_eq ⟨#[69, 76, 83, 73, 70]⟩]; exact h4
  · rw [ByteArray.toList_eq ⟨#[69, 76, 83, 69]⟩]; exact h5
theorem ender_if {e : Tk} (h : isM e ⟨#[69, 78, 68, 95, 73, 70]⟩ = true) : Ender e := ender_of h (by rw [ByteArray.toList_eq]; rfl) (by rw [ByteArray.toList_eq]; rfl) (by rw [ByteArray.toList_eq]; rfl) (by rw [ByteArray.toList_eq]; rfl) (by rw [ByteArray.toList_eq]; rfl)
theorem ender_for {e : Tk} (h : isM e ⟨#[69, 78, 68, 95, 70, 79, 82]⟩ = true) : Ender e := ender_of h (by rw [ByteArray.toList_eq]; rfl) (by rw [ByteArray.toList_eq]; rfl) (by rw [ByteArray.toList_eq]; rfl) (by rw [ByteArray.toList_eq]; rfl) (by rw [ByteArray.toList_eq]; rfl)
theorem stop_kw {t : Tk} {x : ByteArray} (h : isM t x = true) (h1 : powP x.data.toList = 0) (h2 : (x.data.toList == [46]) = false) (h3 : (x.data.toList == [91]) = false) : Stop t := stop_of h (by rw [ByteArray.toList_eq]; exact h1) (by rw [ByteArray.toList_eq]; exact h2) (by rw [ByteArray.toList_eq]; exact h3)
def RetL (p : Nat) (w : World) (Q : World → Prop) (e : Ending) (w' : World) : Prop := ∃ sl : Sl, e = .returned (.slice sl.a sl.l sl.c) ∧ Ex (fun k => k = p) w w' ∧ Q w'
def StmtsOk (B p : Nat) (a : Option Addr) (cp : Nat) (s : List Int) (b : Sm) : Prop :=
  ∀ (w : World) (d : Int) (sc e : Tk) (L : List Tk), 0 ≤ d ∧ d ≤ 64 → isM sc ⟨#[59]⟩ = true → Ender e → At B p a cp s w d (smT b ++ sc :: e :: L) → Calls Try.prog 37 #[.pointer (some ⟨p, 0, none⟩)] w (RetL p w fun w' => Out B p a cp s w' d (e :: L) (deepS b d))
theorem smT_cons (b : Sm) (K : List Tk) : ∃ y Y, smT b ++ K = y :: Y := by
  cases b <;> exact ⟨_, _, rfl⟩
def zSt (l c : Int) : St := ⟨0, ⟨#[]⟩, ⟨none, 0, 0⟩, ⟨none, 0, 0⟩, ⟨none, 0, 0⟩, ⟨none, 0, 0⟩, ⟨none, 0, 0⟩, ⟨none, 0, 0⟩, l, c⟩
section
variable {B p : Nat} {a : Option Addr} {cp : Nat} {s : List Int}
set_option maxRecDepth 100000 in
set_option maxHeartbeats 4000000 in
/-- parser.forStmt -/
theorem for_ok {f nm ae z t1 o_ d1 sc ef : Tk} {b : Sm} (hb : StmtsOk B p a cp s b) (hok : (Sm.fors f nm ae z t1 o_ d1 b sc ef).Ok) {w : World} {d : Int} {u : Tk} {L : List Tk} {q : Nat} {st : St} (hq : B ≤ q) (hsb : SB w q st) (hd : 0 ≤ d ∧ d ≤ 64) (hat : At B p a cp s w d (smT (Sm.fors f nm ae z t1 o_ d1 b sc ef) ++ u :: L)) :
    Calls Try.prog 75 #[.pointer (some ⟨p, 0, none⟩), .pointer (some ⟨q, 0, none⟩)] w (RetS B p q a cp s w d (u :: L) (deepS (Sm.fors f nm ae z t1 o_ d1 b sc ef) d)) := by
  obtain ⟨hf, hfl, hnm, hae, hz, ht1, ho, hd1, hbo, hsc, hef⟩ := hok
  have hbb := hat.hB
  have hpq : p ≠ q := by omega
  simp only [smT, List.cons_append, List.append_assoc, List.nil_append] at hat
  obtain ⟨y, Y, hY⟩ := smT_cons b (sc :: ef :: u :: L)
  have HY := hide hY
  rw [hY] at hat
  have HF := hide hf
  have HFL := hide hfl
  have HNM := hide hnm
  have HAE := hide hae
  have HZ := hide hz
  have HT1 := hide ht1
  have HO := hide ho
  have HD1 := hide hd1
  have HSC := hide hsc
  have HEF := hide hef
  have HBO := hide hb
  have hs1 := (Ex.refl (fun k => k = q) w).set (p := q) (j := 0) rfl (.int .i64 3)
  have HSB := hide (hsb.put0 3)
  have HE1 := hide (hs1.r (p := p))
  have HAT := hide (hat.ex hs1 (fun k e => by omega))
  have q0 := hsb.c0
  have qf0 := hsb.fz 0
  clear hf hfl hnm hae hz ht1 ho hd1 hbo hsc hef hb hat hY hsb hs1
  go_enter Try.func75, Try.ntmps75
  go_upto_region 1 with fail
  generalize w.setCell ⟨q, 0, none⟩ (.int .i64 3) = w1 at *
  clear q0 qf0
  by_cases h64 : 64 ≤ d
  · have HOP := hide (open_deep HAT.out h64 (isM_k HF.out))
    have HDD : Hid (deepS (Sm.fors f nm ae z t1 o_ d1 b sc ef) d = some f.c) := if_pos h64
    clear h64
    go_wp2_with (go_at_call 94; refine (HOP.out).mono ?_; rintro e w2 ⟨rfl, hex, hbad⟩; have HEX := hide hex; have HBAD := hide hbad; clear hex hbad; simp only [])
    have HQ : Out B p a cp s w2 d (u :: L) (deepS (Sm.fors f nm ae z t1 o_ d1 b sc ef) d) := by
      have hb := HBAD.out
      rw [HFL.out] at hb
      rw [HDD.out]
      exact hb
    exact bodyPost_ret (v := .tuple #[]) (by simp [results, Try.results75]) rfl ⟨rfl, HE1.out.trans (HEX.out.l (q := q)), ⟨_, HSB.out.keep HEX.out (by omega)⟩, HQ⟩
  · have HOP := hide (open_ok HAT.out (by omega) (isM_k HF.out))
    have HDD : Hid (deepS (Sm.fors f nm ae z t1 o_ d1 b sc ef) d = deepS b (d + 1)) := if_neg h64
    go_upto_region 2 with (go_at_call 94; refine (HOP.out).mono ?_; rintro e w2 ⟨rfl, hex, hat⟩; have HEX := hide hex; have HAT2 := hide hat; clear hex hat; simp only [])
    have HSB2 := hide (HSB.out.keep HEX.out (by omega))
    have HE2 := hide (HE1.out.trans (HEX.out.l (q := q)))
    have HT := hide (take_yes _ HAT2.out)
    rw [HNM.out] at HT
    clear HEX HSB HE1 HAT HAT2 HOP
    go_wp2_with fail
    refine (HT.out).mono ?_
    rintro e w3 ⟨rfl, hex, hat⟩
    have HSB3 := hide (HSB2.out.keep hex (by omega))
    have HE3 := hide (HE2.out.trans (hex.l (q := q)))
    have HAT3 := hide hat
    clear hex hat HT HSB2 HE2
    have q1 := HSB3.out.c1
    have qf1 := HSB3.out.fz 1
    have hfl := fld81 2 nm.x nm.v nm.e nm.l nm.c w3
    unfold tokV
    simp only []
    rw [HNM.out]
    go_upto_region 3 with fail
    have hs4 := (Ex.refl (fun k => k = q) w3).set (p := q) (j := 1) rfl (.string nm.x)
    have HSB4 := hide (HSB3.out.put1 nm.x)
    have HE4 := hide (HE3.out.trans (hs4.r (p := p)))
    have HAT4 := hide (HAT3.out.ex hs4 (fun k e => by omega))
    generalize w3.setCell ⟨q, 1, none⟩ (.string nm.x) = w4 at *
    clear hs4 HSB3 HE3 HAT3 q1 qf1 hfl
    have HXP := hide (expect_yes HAT4.out ⟨#[58, 61]⟩ HAE.out)
    go_upto_region 4 with (go_at_call 34; refine (HXP.out).mono ?_; rintro e w5 ⟨rfl, hex, hat⟩; have HEX := hide hex; have HAT5 := hide hat; clear hex hat; simp only [])
    have HSB5 := hide (HSB4.out.keep HEX.out (by omega))
    have HE5 := hide (HE4.out.trans (HEX.out.l (q := q)))
    have HX4 := hide (expr_all (B := B) (p := p) (a := a) (cp := cp) (s := s) (n := z) (.inr HZ.out) [] (fun _ h => by cases h) w5 (d + 1) t1 _ (by omega) (stop_kw HT1.out (by decide) rfl rfl) HAT5.out)
    clear HEX HSB4 HE4 HAT4 HXP HAT5
    go_wp2_with fail
    refine (HX4.out).mono ?_
    rintro e w6 ⟨v, rfl, hex, hout⟩
    have hs7 := (Ex.refl (fun _ => False) w6).alloc (.cells #[.int .i64 v.k, .string v.x, .int .i64 v.n, .string v.m, .slice v.q v.ql v.qc, .int .i64 v.li, .int .i64 v.co] 47)
    have HR7 := hide (XB.new w6 v)
    have hsb6 := HSB5.out.keep hex (by omega)
    have hqr : q < w6.heap.size := World.block_lt_of_cell? _ _ hsb6.c0
    have HSB7 := hide (hsb6.keep hs7 (fun e => e))
    have HE7 := hide ((HE5.out.trans (hex.l (q := q))).trans2 hs7 (fun j e => e.elim))
    have HAT7 := hide (At.ex (L := t1 :: _) hout hs7 (fun _ e => e.elim))
    clear hs7 hex hout hsb6 HSB5 HE5 HX4
    unfold xpV
    simp only []
    go_upto_region 5 with fail
    generalize w6.alloc (.cells #[.int .i64 v.k, .string v.x, .int .i64 v.n, .string v.m, .slice v.q v.ql v.qc, .int .i64 v.li, .int .i64 v.co] 47) = w7 at *
    generalize w6.heap.size = r at *
    have HXP := hide (expect_yes HAT7.out ⟨#[84, 79]⟩ HT1.out)
    go_upto_region 6 with (go_at_call 34; refine (HXP.out).mono ?_; rintro e w8 ⟨rfl, hex, hat⟩; have HEX := hide hex; have HAT8 := hide hat; clear hex hat; simp only [])
    have HR5 := hide (HR7.out.keep HEX.out (by omega))
    have HSB5 := hide (HSB7.out.keep HEX.out (by omega))
    have HE5 := hide (HE7.out.trans (HEX.out.l (q := q)))
    have HX6 := hide (expr_all (B := B) (p := p) (a := a) (cp := cp) (s := s) (n := o_) (.inr HO.out) [] (fun _ h => by cases h) w8.drew (d + 1) d1 _ (by omega) (stop_kw HD1.out (by decide) rfl rfl) (HAT8.out.ex (S := fun _ => False) (Ex.refl _ _).drew (fun _ e => e.elim)))
    clear HEX HR7 HSB7 HE7 HAT7 HXP HAT8
    have T0 := HR5.out.c0
    have T1 := HR5.out.c1
    have T2 := HR5.out.c2
    have T3 := HR5.out.c3
    have T4 := HR5.out.c4
    have T5 := HR5.out.c5
    have T6 := HR5.out.c6
    have q2 := HSB5.out.c2
    have qf2 := HSB5.out.fz 2
    go_region_held3 (fun w' => w'.cell? ⟨r, 0, none⟩ = some (.int .i64 v.k) ∧ w'.cell? ⟨r, 1, none⟩ = some (.string v.x) ∧ w'.cell? ⟨r, 2, none⟩ = some (.int .i64 v.n) ∧ w'.cell? ⟨r, 3, none⟩ = some (.string v.m) ∧ w'.cell? ⟨r, 4, none⟩ = some (.slice v.q v.ql v.qc) ∧ w'.cell? ⟨r, 5, none⟩ = some (.int .i64 v.li) ∧ w'.cell? ⟨r, 6, none⟩ = some (.int .i64 v.co)) (simp [*, go_sem])
      (first
        | (go_at_call 44; refine (HX6.out).mono ?_; rintro e w6 ⟨x2, rfl, hex, hout⟩; have hex2 := Ex.of_drew hex; have hr6 := HR5.out.keep hex2 (by omega); have S0 := hr6.c0; have hlt6 : r < w6.heap.size := World.block_lt_of_cell? _ _ S0; have S1 := hr6.c1; have S2 := hr6.c2; have S3 := hr6.c3; have S4 := hr6.c4; have S5 := hr6.c5; have S6 := hr6.c6; have hsb6 := HSB5.out.keep hex2 (by omega); have k2 := hsb6.c2; have kf2 := hsb6.fz 2; have hlq6 : q < w6.heap.size := World.block_lt_of_cell? _ _ k2; have HSB6 := hide hsb6; have HE6 := hide (HE5.out.trans (hex2.l (q := q))); have HOUT := hide hout; clear hex hex2 hr6 hout hsb6; unfold xpV))
    clear HR5 HSB5 HE5 HX6 T0 T1 T2 T3 T4 T5 T6 q2 qf2
    go_upto_region 7 with fail
    have hs9 := ((Ex.refl (fun k => k = q) w6).set (p := q) (j := 2) rfl (.slice (some ⟨w6.heap.size, 0, none⟩) 2 2)).alloc (.cells #[.int .i64 v.k, .string v.x, .int .i64 v.n, .string v.m, .slice v.q v.ql v.qc, .int .i64 v.li, .int .i64 v.co, .int .i64 x2.k, .string x2.x, .int .i64 x2.n, .string x2.m, .slice x2.q x2.ql x2.qc, .int .i64 x2.li, .int .i64 x2.co] 47)
    have HSB9 := hide ((HSB6.out.put2 ⟨some ⟨w6.heap.size, 0, none⟩, 2, 2⟩).keep (S := fun _ => False) ((Ex.refl _ _).alloc (.cells #[.int .i64 v.k, .string v.x, .int .i64 v.n, .string v.m, .slice v.q v.ql v.qc, .int .i64 v.li, .int .i64 v.co, .int .i64 x2.k, .string x2.x, .int .i64 x2.n, .string x2.m, .slice x2.q x2.ql x2.qc, .int .i64 x2.li, .int .i64 x2.co] 47)) (fun e => e))
    have HE9 := hide (HE6.out.trans (hs9.r (p := p)))
    have HAT9 := hide (At.ex (L := d1 :: _) HOUT.out hs9 (fun k e => by omega))
    generalize (w6.setCell ⟨q, 2, none⟩ (.slice (some ⟨w6.heap.size, 0, none⟩) 2 2)).alloc (.cells #[.int .i64 v.k, .string v.x, .int .i64 v.n, .string v.m, .slice v.q v.ql v.qc, .int .i64 v.li, .int .i64 v.co, .int .i64 x2.k, .string x2.x, .int .i64 x2.n, .string x2.m, .slice x2.q x2.ql x2.qc, .int .i64 x2.li, .int .i64 x2.co] 47) = w9 at *
    generalize w6.heap.size = g6 at *
    clear hs9 HSB6 HE6 HOUT S0 S1 S2 S3 S4 S5 S6 k2 kf2
    have HXP := hide (expect_yes HAT9.out ⟨#[68, 79]⟩ HD1.out)
    go_upto_region 8 with (go_at_call 34; refine (HXP.out).mono ?_; rintro e w10 ⟨rfl, hex, hat⟩; have HEX := hide hex; have HAT10 := hide hat; clear hex hat; simp only [])
    have HSB10 := hide (HSB9.out.keep HEX.out (by omega))
    have HE10 := hide (HE9.out.trans (HEX.out.l (q := q)))
    have hat10 := HAT10.out
    rw [← HY.out] at hat10
    have HX8 := hide (HBO.out w10 (d + 1) sc ef (u :: L) (by omega) HSC.out (ender_for HEF.out) hat10)
    clear HEX HSB9 HE9 HAT9 HXP HAT10 hat10
    go_wp2_with fail
    refine (HX8.out).mono ?_
    rintro e w11 ⟨sl, rfl, hex, hout⟩
    have HSB11 := hide (HSB10.out.keep hex (by omega))
    have HE11 := hide (HE10.out.trans (hex.l (q := q)))
    have HOUT := hide hout
    clear hex hout HSB10 HE10 HX8
    have q5 := HSB11.out.c5
    have qf5 := HSB11.out.fz 5
    simp only []
    go_upto_region 9 with fail
    have hs12 := (Ex.refl (fun k => k = q) w11).set (p := q) (j := 5) rfl (.slice sl.a sl.l sl.c)
    have hsb12 := HSB11.out.put5 sl
    have he12 := HE11.out.trans (hs12.r (p := p))
    have hout12 := HOUT.out.ex hs12 (fun k e => by omega)
    generalize w11.setCell ⟨q, 5, none⟩ (.slice sl.a sl.l sl.c) = w12 at *
    clear hs12 HSB11 HE11 HOUT q5 qf5
    obtain ⟨dd, k10, kf10, hdec⟩ := hout12.dec (by omega)
    have hs13 := (Ex.refl (fun k => k = p) w12).set (p := p) (j := 10) rfl (.int .i64 (wrap64 (dd - 1)))
    have HSB13 := hide (hsb12.keep hs13 (by omega))
    have HE13 := hide (he12.trans (hs13.l (q := q)))
    have HXP := hide (expect_out hdec ⟨#[69, 78, 68, 95, 70, 79, 82]⟩ HEF.out)
    clear hdec hs13 hsb12 he12 hout12
    go_wp2_with (go_at_call 34; refine (HXP.out).mono ?_; rintro e w14 ⟨rfl, hex, hout⟩; have HEX := hide hex; have HOUT := hide hout; clear hex hout; simp only [])
    have HQ : Out B p a cp s w14 d (u :: L) (deepS (Sm.fors f nm ae z t1 o_ d1 b sc ef) d) := by
      rw [HDD.out]
      exact HOUT.out
    exact ⟨rfl, .tuple #[], by simp [results, Try.results75], rfl, HE13.out.trans (HEX.out.l (q := q)), ⟨_, HSB13.out.keep HEX.out (by omega)⟩, HQ⟩
end
end Go.Proofs.Qxb6500774a
