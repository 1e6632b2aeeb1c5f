import Derived.Test.Qxb6500774aKw2
namespace Go.Proofs.Qxb6500774a
open Go.RowKit
set_option linter.unusedVariables false
set_option linter.unusedSimpArgs false

section
variable {B p : Nat} {a : Option Addr} {cp : Nat} {s : List Int}
set_option linter.unusedSimpArgs false in
set_option linter.unusedVariables false in
set_option maxRecDepth 100000 in
set_option maxHeartbeats 32000000 in
theorem prop_rsp (n : Nat) (R : Pp × PSt) (w : World) (hpj : pprop s n = some R) (hsrc : SrcAt w a s) (ha : ∀ (i : Nat) c, s[i]? = some c → ∀ g off, a = some ⟨g, off, none⟩ → g < w.heap.size) (hl2 : s.length ≤ 4611686018427387904) (hac : (acceptS s bRSP (.at 0 0)).1 = true) :
    Calls Try.prog 19 #[.slice a s.length cp] w (QPost w R) := by
  have eq1 : Ex (fun _ => False) w ((w.alloc (.cells #[.bool false, .int .i64 0, .string ⟨#[]⟩, .int .i64 0, .string ⟨#[]⟩, .slice none 0 0, .int .i64 0, .int .i64 0, .int .i64 0, .int .i64 0, .string ⟨#[]⟩, .int .i64 0, .string ⟨#[]⟩, .slice none 0 0, .int .i64 0, .int .i64 0] 49)).alloc (.cells #[.int .i64 0, .int .i64 0, .int .i64 0] 36)) := ((Ex.refl _ _).alloc _).alloc _
  have HNP := hide (newParserK (a := a) (cp := cp) (s := s) ((w.alloc (.cells #[.bool false, .int .i64 0, .string ⟨#[]⟩, .int .i64 0, .string ⟨#[]⟩, .slice none 0 0, .int .i64 0, .int .i64 0, .int .i64 0, .int .i64 0, .string ⟨#[]⟩, .int .i64 0, .string ⟨#[]⟩, .slice none 0 0, .int .i64 0, .int .i64 0] 49)).alloc (.cells #[.int .i64 0, .int .i64 0, .int .i64 0] 36)) (fun i c hc => by
    obtain ⟨b, off, e, hx⟩ := hsrc i c hc
    exact ⟨b, off, e, eq1.cell (fun z => z) hx⟩) (fun i c hc g off e => by have := ha i c hc g off e; have := eq1.size; omega) hl2)
  have q2 := QK.new w
  have n3 := fun j u h => new_cells (w.alloc (.cells #[.bool false, .int .i64 0, .string ⟨#[]⟩, .int .i64 0, .string ⟨#[]⟩, .slice none 0 0, .int .i64 0, .int .i64 0, .int .i64 0, .int .i64 0, .string ⟨#[]⟩, .int .i64 0, .string ⟨#[]⟩, .slice none 0 0, .int .i64 0, .int .i64 0] 49)) [.int .i64 0, .int .i64 0, .int .i64 0] 36 j u h
  have hs1 : (w.alloc (.cells #[.bool false, .int .i64 0, .string ⟨#[]⟩, .int .i64 0, .string ⟨#[]⟩, .slice none 0 0, .int .i64 0, .int .i64 0, .int .i64 0, .int .i64 0, .string ⟨#[]⟩, .int .i64 0, .string ⟨#[]⟩, .slice none 0 0, .int .i64 0, .int .i64 0] 49)).heap.size = w.heap.size + 1 := by simp
  have HZ : Hid (∀ wz, Ex (fun _ => False) ((w.alloc (.cells #[.bool false, .int .i64 0, .string ⟨#[]⟩, .int .i64 0, .string ⟨#[]⟩, .slice none 0 0, .int .i64 0, .int .i64 0, .int .i64 0, .int .i64 0, .string ⟨#[]⟩, .int .i64 0, .string ⟨#[]⟩, .slice none 0 0, .int .i64 0, .int .i64 0] 49)).alloc (.cells #[.int .i64 0, .int .i64 0, .int .i64 0] 36)) wz → QK wz w.heap.size false x00 0 x00 ∧ (wz.cell? ⟨w.heap.size + 1, 0, none⟩ = some (.int .i64 0) ∧ wz.cell? ⟨w.heap.size + 1, 1, none⟩ = some (.int .i64 0) ∧ wz.cell? ⟨w.heap.size + 1, 2, none⟩ = some (.int .i64 0)) ∧ (∀ j, wz.frozen? ⟨w.heap.size + 1, j, none⟩ = false)) := fun wz ex => by
    have m3 := fun j u h => ex.cell (fun z => z) (by have := n3 j u h; rw [show (⟨(w.alloc (.cells #[.bool false, .int .i64 0, .string ⟨#[]⟩, .int .i64 0, .string ⟨#[]⟩, .slice none 0 0, .int .i64 0, .int .i64 0, .int .i64 0, .int .i64 0, .string ⟨#[]⟩, .int .i64 0, .string ⟨#[]⟩, .slice none 0 0, .int .i64 0, .int .i64 0] 49)).heap.size, 0, none⟩ : Addr).add j = ⟨(w.alloc (.cells #[.bool false, .int .i64 0, .string ⟨#[]⟩, .int .i64 0, .string ⟨#[]⟩, .slice none 0 0, .int .i64 0, .int .i64 0, .int .i64 0, .int .i64 0, .string ⟨#[]⟩, .int .i64 0, .string ⟨#[]⟩, .slice none 0 0, .int .i64 0, .int .i64 0] 49)).heap.size, j, none⟩ by unfold Addr.add; split <;> simp_all] at this; exact this)
    rw [hs1] at m3
    exact ⟨(q2.keep ((Ex.refl (fun _ => False) _).alloc _) (fun z => z)).keep ex (fun z => z), ⟨m3 0 _ rfl, m3 1 _ rfl, m3 2 _ rfl⟩, fun j => (ex.frozen (fun z => z) (by simp)).trans (by rw [← hs1]; simp [go_sem])⟩
  have HE1 := hide eq1
  clear q2 n3
  obtain ⟨e1, st2, e2, st6, hp1, hp2, hr⟩ : ∃ e1 st2 e2 st6, pj s n (.expr 1) (acceptS s bRSP (.at 0 0)).2 = some (e1, st2) ∧ pj s n (.expr 1) (expectS s bTHN (takeS s 3 (expectS s bWIT st2)).2) = some (e2, st6) ∧ (⟨true, e1, (takeS s 3 (expectS s bWIT st2)).1.v, some e2⟩, (takeS s 0 (expectS s bSEM st6)).2) = R := by
    unfold pprop at hpj
    rw [if_pos hac] at hpj
    split at hpj
    · cases hpj
    · next e1 st2 h1 =>
      split at hpj
      · cases hpj
      · next e2 st6 h2 => injection hpj with hpj; exact ⟨e1, st2, e2, st6, h1, h2, hpj⟩
  have hd0 : (0 : Int) ≤ 0 ∧ (0 : Int) ≤ 64 := ⟨by omega, by omega⟩
  have hda1 : DA 0 (acceptS s bRSP (.at 0 0)).2 := acceptS_da (show DA 0 (.at 0 0) from rfl) _
  have hda2 : DA 0 st2 := pj_da s _ _ _ _ _ hp1 hda1
  have hda5 : DA 0 (expectS s bTHN (takeS s 3 (expectS s bWIT st2)).2) := expectS_da (takeS_da (expectS_da hda2 _) 3) _
  have HA3 : Hid (isAt (expectS s bWIT st2) → isAt st2) := isAt.ex
  have HA4 : Hid (isAt (takeS s 3 (expectS s bWIT st2)).2 → isAt (expectS s bWIT st2)) := fun z => (isAt.take z).1
  have HA5 : Hid (isAt (expectS s bTHN (takeS s 3 (expectS s bWIT st2)).2) → isAt (takeS s 3 (expectS s bWIT st2)).2) := isAt.ex
  have HA6 : Hid (isAt st6 → isAt (expectS s bTHN (takeS s 3 (expectS s bWIT st2)).2)) := fun z => isAt.pj hp2 hda5 hd0 z
  have HA8 : Hid (isAt (takeS s 0 (expectS s bSEM st6)).2 → isAt st6) := fun z => isAt.ex (isAt.take z).1
  have HCE1 : Hid (∀ (p : Nat) wz, InS (p + 1) p a cp s wz (acceptS s bRSP (.at 0 0)).2 → Calls Try.prog 44 #[.pointer (some ⟨p, 0, none⟩), .int .i64 1] wz (XPost (p + 1) p a cp s wz (e1, st2))) := fun p wz hz => expr_any wz hp1 hz (hda1.ok hd0)
  have HCE2 : Hid (∀ (p : Nat) wz, InS (p + 1) p a cp s wz (expectS s bTHN (takeS s 3 (expectS s bWIT st2)).2) → Calls Try.prog 44 #[.pointer (some ⟨p, 0, none⟩), .int .i64 1] wz (XPost (p + 1) p a cp s wz (e2, st6))) := fun p wz hz => expr_any wz hp2 hz (hda5.ok hd0)
  have HC1 : Hid (∀ (p : Nat) wz, InS (p + 1) p a cp s wz (.at 0 0) → _) := fun p wz hz => acceptK_any (B := p + 1) (p := p) wz hz bRSP
  rw [hac] at HC1
  have HC3 : Hid (∀ (p : Nat) wz, InS (p + 1) p a cp s wz st2 → _) := fun p wz hz => expectK_any (B := p + 1) (p := p) wz hz bWIT
  have HC4 : Hid (∀ (p : Nat) wz, InS (p + 1) p a cp s wz (expectS s bWIT st2) → _) := fun p wz hz => takeK_any (B := p + 1) (p := p) wz hz 3 (by decide)
  have HC5 : Hid (∀ (p : Nat) wz, InS (p + 1) p a cp s wz (takeS s 3 (expectS s bWIT st2)).2 → _) := fun p wz hz => expectK_any (B := p + 1) (p := p) wz hz bTHN
  have HC7 : Hid (∀ (p : Nat) wz, InS (p + 1) p a cp s wz st6 → _) := fun p wz hz => expectK_any (B := p + 1) (p := p) wz hz bSEM
  have HC8 : Hid (∀ (p : Nat) wz, InS (p + 1) p a cp s wz (expectS s bSEM st6) → _) := fun p wz hz => takeK_any (B := p + 1) (p := p) wz hz 0 (by decide)
  have HRR := hide hr
  clear hpj hp1 hr hda1 hd0 hsrc ha hl2 hs1 eq1 hac hp2 hda2 hda5
  generalize (takeS s 0 (expectS s bSEM st6)).2 = st8 at *
  generalize (takeS s 0 (expectS s bSEM st6)).1 = t8 at *
  generalize expectS s bSEM st6 = st7 at *
  unfold bSEM at HC7
  generalize expectS s bTHN (takeS s 3 (expectS s bWIT st2)).2 = st5 at *
  generalize (takeS s 3 (expectS s bWIT st2)).2 = st4 at *
  generalize (takeS s 3 (expectS s bWIT st2)).1 = t4 at *
  generalize expectS s bWIT st2 = st3 at *
  generalize (acceptS s bRSP (.at 0 0)).2 = st1 at *
  obtain ⟨xw, hx⟩ : ∃ x, t4.v = x := ⟨_, rfl⟩
  rw [hx] at HRR
  unfold bRSP at HC1
  unfold bWIT at HC3
  unfold bTHN at HC5
  have HS0 : Hid (w.heap.size + 2 ≤ ((w.alloc (.cells #[.bool false, .int .i64 0, .string ⟨#[]⟩, .int .i64 0, .string ⟨#[]⟩, .slice none 0 0, .int .i64 0, .int .i64 0, .int .i64 0, .int .i64 0, .string ⟨#[]⟩, .int .i64 0, .string ⟨#[]⟩, .slice none 0 0, .int .i64 0, .int .i64 0] 49)).alloc (.cells #[.int .i64 0, .int .i64 0, .int .i64 0] 36)).heap.size) := by show _ ≤ _; simp
  go_enter Try.func19, Try.ntmps19
  go_upto_region 1 with fail
  go_wp2_with fail
  refine HNP.out.mono ?_
  rintro e9 w2 ⟨p, rfl, hex, hp, hi⟩
  have exz : Ex (fun _ => False) w2 (w2.alloc (.cells #[.bool false, .int .i64 0, .string ⟨#[]⟩, .int .i64 0, .string ⟨#[]⟩, .slice none 0 0, .int .i64 0, .int .i64 0, .int .i64 0, .int .i64 0, .string ⟨#[]⟩, .int .i64 0, .string ⟨#[]⟩, .slice none 0 0, .int .i64 0, .int .i64 0] 49)) := (Ex.refl _ _).alloc _
  have HI := hide (hi.ex exz (fun _ z => z.elim))
  have HX := hide (hex.trans exz)
  have HP : Hid (((w.alloc (.cells #[.bool false, .int .i64 0, .string ⟨#[]⟩, .int .i64 0, .string ⟨#[]⟩, .slice none 0 0, .int .i64 0, .int .i64 0, .int .i64 0, .int .i64 0, .string ⟨#[]⟩, .int .i64 0, .string ⟨#[]⟩, .slice none 0 0, .int .i64 0, .int .i64 0] 49)).alloc (.cells #[.int .i64 0, .int .i64 0, .int .i64 0] 36)).heap.size ≤ p ∧ w.heap.size + 2 ≤ ((w.alloc (.cells #[.bool false, .int .i64 0, .string ⟨#[]⟩, .int .i64 0, .string ⟨#[]⟩, .slice none 0 0, .int .i64 0, .int .i64 0, .int .i64 0, .int .i64 0, .string ⟨#[]⟩, .int .i64 0, .string ⟨#[]⟩, .slice none 0 0, .int .i64 0, .int .i64 0] 49)).alloc (.cells #[.int .i64 0, .int .i64 0, .int .i64 0] 36)).heap.size) := ⟨hp, HS0.out⟩
  have HK := hide (QK.new w2)
  have HP5 : Hid (p < w2.heap.size ∧ w2.heap.size < (w2.alloc (.cells #[.bool false, .int .i64 0, .string ⟨#[]⟩, .int .i64 0, .string ⟨#[]⟩, .slice none 0 0, .int .i64 0, .int .i64 0, .int .i64 0, .int .i64 0, .string ⟨#[]⟩, .int .i64 0, .string ⟨#[]⟩, .slice none 0 0, .int .i64 0, .int .i64 0] 49)).heap.size ∧ ((w.alloc (.cells #[.bool false, .int .i64 0, .string ⟨#[]⟩, .int .i64 0, .string ⟨#[]⟩, .slice none 0 0, .int .i64 0, .int .i64 0, .int .i64 0, .int .i64 0, .string ⟨#[]⟩, .int .i64 0, .string ⟨#[]⟩, .slice none 0 0, .int .i64 0, .int .i64 0] 49)).alloc (.cells #[.int .i64 0, .int .i64 0, .int .i64 0] 36)).heap.size ≤ w2.heap.size) := ⟨hi.hB.1, by simp, hex.size⟩
  clear hex hp hi HNP HS0 exz
  simp only []
  generalize ((w.alloc (.cells #[.bool false, .int .i64 0, .string ⟨#[]⟩, .int .i64 0, .string ⟨#[]⟩, .slice none 0 0, .int .i64 0, .int .i64 0, .int .i64 0, .int .i64 0, .string ⟨#[]⟩, .int .i64 0, .string ⟨#[]⟩, .slice none 0 0, .int .i64 0, .int .i64 0] 49)).alloc (.cells #[.int .i64 0, .int .i64 0, .int .i64 0] 36)) = w1 at *
  have HR : Hid (∃ r2 r3, w.heap.size = r2 ∧ w.heap.size + 1 = r3) := ⟨_, _, rfl, rfl⟩
  obtain ⟨r2, r3, hr2, hr3⟩ := HR.out
  have HR2 : Hid (r2 = w.heap.size ∧ r3 = w.heap.size + 1) := ⟨hr2.symm, hr3.symm⟩
  rw [hr3, hr2] at HZ
  rw [hr3, hr2]
  clear hr2 hr3 HR
  go_upto_region 3 with fail
  generalize w2.alloc (.cells #[.bool false, .int .i64 0, .string ⟨#[]⟩, .int .i64 0, .string ⟨#[]⟩, .slice none 0 0, .int .i64 0, .int .i64 0, .int .i64 0, .int .i64 0, .string ⟨#[]⟩, .int .i64 0, .string ⟨#[]⟩, .slice none 0 0, .int .i64 0, .int .i64 0] 49) = w3 at *
  generalize w2.heap.size = r at *
  go_wp2_with fail
  refine (HC1.out p w3 HI.out).mono ?_
  rintro e9 w4 ⟨rfl, hex, hi⟩
  have HI4 := hide hi
  have HX4 : Hid (Ex (fun _ => False) w1 w4) := HX.out.trans2 hex (fun k z => .inr (by have := HP.out; omega))
  have HK4 := hide (HK.out.keep hex (by have := HP5.out; omega))
  have HS4 : Hid (w3.heap.size ≤ w4.heap.size) := hex.size
  clear hex hi HI HX HK HC1
  simp only []
  have y0 := HK4.out.c0
  have yf0 := HK4.out.fz 0
  have exs : Ex (fun k => k = r) w4 (w4.setCell ⟨r, 0, none⟩ (.bool true)) := (Ex.refl (fun k => k = r) _).set (p := r) rfl _
  have HI5 : Hid (InS (p + 1) p a cp s (w4.setCell ⟨r, 0, none⟩ (.bool true)) st1) := HI4.out.ex exs (fun k z => by have := HP5.out; omega)
  have HX5 : Hid (Ex (fun _ => False) w1 (w4.setCell ⟨r, 0, none⟩ (.bool true))) := HX4.out.trans2 exs (fun k z => .inr (by have := HP5.out; omega))
  have HK5 := hide (HK4.out.putb true)
  have HSS : Hid (w3.heap.size ≤ (w4.setCell ⟨r, 0, none⟩ (.bool true)).heap.size) := Nat.le_trans HS4.out exs.size
  clear HI4 HX4 HK4 exs
  go_upto_region 5 with fail
  generalize w4.setCell ⟨r, 0, none⟩ (.bool true) = w5 at *
  clear y0 yf0
  go_upto_region 5 with fail
  go_wp2_with fail
  refine (HCE1.out p w5 HI5.out).mono ?_
  rintro e9 w6c ⟨f1, rfl, hex, hi, hti⟩
  have HXc : Hid (Ex (fun _ => False) w1 w6c) := HX5.out.trans2 hex (fun k z => .inr (by have := HP.out; omega))
  have HKc := hide (HK5.out.keep hex (by have := HP5.out; omega))
  have y1 := HKc.out.c1
  have yf1 := HKc.out.fz 1
  have y2 := HKc.out.c2
  have yf2 := HKc.out.fz 2
  have y3 := HKc.out.c3
  have yf3 := HKc.out.fz 3
  have y4 := HKc.out.c4
  have yf4 := HKc.out.fz 4
  have y5 := HKc.out.c5
  have yf5 := HKc.out.fz 5
  have y6 := HKc.out.c6
  have yf6 := HKc.out.fz 6
  have y7 := HKc.out.c7
  have yf7 := HKc.out.fz 7
  have exs := ex_setp w6c r f1
  have HI6 : Hid (InS (p + 1) p a cp s (setp w6c r f1) st2) := hi.ex exs (fun k z => by have := HP5.out; omega)
  have HX6 : Hid (Ex (fun _ => False) w1 (setp w6c r f1)) := HXc.out.trans2 exs (fun k z => .inr (by have := HP5.out; omega))
  have HK6 := hide (HKc.out.putp f1)
  have HT : Hid (isAt st2 → ET (setp w6c r f1) (fun k => k < w3.heap.size) e1 f1) := fun z => ((hti z).keep (Ex.refl (fun _ => False) _) (fun _ z => z.elim) (fun k z => .inl (by have := HSS.out; omega))).keep exs (fun k z => .inl (by have := HP5.out; omega)) (fun _ z => .inl z)
  have HSN : Hid (w3.heap.size ≤ (setp w6c r f1).heap.size) := Nat.le_trans HSS.out (Nat.le_trans hex.size exs.size)
  clear hex hi hti HI5 HX5 HK5 HXc HKc exs HCE1
  unfold xV
  simp only []
  unfold setp at HI6 HX6 HK6 HT HSN
  unfold x00 nb at y1 y2 y3 y4 y5 y6 y7
  dsimp only at y1 y2 y3 y4 y5 y6 y7
  go_upto_region 6 with fail
  generalize (((((((w6c).setCell ⟨r, 1, none⟩ (.int .i64 f1.k)).setCell ⟨r, 2, none⟩ (.string f1.x)).setCell ⟨r, 3, none⟩ (.int .i64 f1.n)).setCell ⟨r, 4, none⟩ (.string f1.m)).setCell ⟨r, 5, none⟩ (.slice f1.q f1.ql f1.qc)).setCell ⟨r, 6, none⟩ (.int .i64 f1.li)).setCell ⟨r, 7, none⟩ (.int .i64 f1.co) = w6 at *
  clear y1 yf1 y2 yf2 y3 yf3 y4 yf4 y5 yf5 y6 yf6 y7 yf7
  go_upto_region 6 with fail
  go_wp2_with fail
  refine (HC3.out p w6 HI6.out).mono ?_
  rintro e9 w7 ⟨rfl, hex, hi⟩
  have HI7 := hide hi
  have HX7 : Hid (Ex (fun _ => False) w1 w7) := HX6.out.trans2 hex (fun k z => .inr (by have := HP.out; omega))
  have HK7 := hide (HK6.out.keep hex (by have := HP5.out; omega))
  have HT7 : Hid (isAt st2 → ET w7 (fun k => k < w3.heap.size) e1 f1) := fun z => (HT.out z).keep hex (fun k z => .inl (by have := HP5.out; omega)) (fun _ z => .inl z)
  have HS7 : Hid (w3.heap.size ≤ w7.heap.size) := Nat.le_trans HSN.out hex.size
  clear hex hi HI6 HX6 HK6 HC3
  simp only []
  go_upto_region 7 with fail
  go_wp2_with fail
  refine (HC4.out p w7 HI7.out).mono ?_
  rintro e9 w8 ⟨rfl, hex, hi⟩
  have HX8 : Hid (Ex (fun _ => False) w1 w8) := HX7.out.trans2 hex (fun k z => .inr (by have := HP.out; omega))
  have HK8 := hide (HK7.out.keep hex (by have := HP5.out; omega))
  have exs : Ex (fun k => k = r) w8 (w8.setCell ⟨r, 8, none⟩ (.int .i64 xw)) := (Ex.refl (fun k => k = r) _).set (p := r) rfl _
  have HI9 : Hid (InS (p + 1) p a cp s (w8.setCell ⟨r, 8, none⟩ (.int .i64 xw)) st4) := hi.ex exs (fun k z => by have := HP5.out; omega)
  have HX9 : Hid (Ex (fun _ => False) w1 (w8.setCell ⟨r, 8, none⟩ (.int .i64 xw))) := HX8.out.trans2 exs (fun k z => .inr (by have := HP5.out; omega))
  have HK9 := hide (HK8.out.putw xw)
  have HT9 : Hid (isAt st2 → ET (w8.setCell ⟨r, 8, none⟩ (.int .i64 xw)) (fun k => k < w3.heap.size) e1 f1) := fun z => ((HT7.out z).keep hex (fun k z => .inl (by have := HP5.out; omega)) (fun _ z => .inl z)).keep exs (fun k z => .inl (by have := HP5.out; omega)) (fun _ z => .inl z)
  have HS9 : Hid (w3.heap.size ≤ (w8.setCell ⟨r, 8, none⟩ (.int .i64 xw)).heap.size) := Nat.le_trans HS7.out (Nat.le_trans hex.size exs.size)
  have y8 := HK8.out.c8
  have yf8 := HK8.out.fz 8
  have hfl := fld81v t4 w8
  unfold tkV at hfl ⊢
  rw [hx] at hfl ⊢
  clear hex hi HI7 HX7 HK7 HT HT7 HC4 hx HX8 HK8 exs HS7 HSN HSS HS4
  simp only []
  go_upto_region 8 with fail
  generalize w8.setCell ⟨r, 8, none⟩ (.int .i64 xw) = w9 at *
  clear hfl y8 yf8
  go_upto_region 8 with fail
  go_wp2_with fail
  refine (HC5.out p w9 HI9.out).mono ?_
  rintro e9 w10 ⟨rfl, hex, hi⟩
  have HI10 := hide hi
  have HX10 : Hid (Ex (fun _ => False) w1 w10) := HX9.out.trans2 hex (fun k z => .inr (by have := HP.out; omega))
  have HK10 := hide (HK9.out.keep hex (by have := HP5.out; omega))
  have HT10 : Hid (isAt st2 → ET w10 (fun k => k < w3.heap.size) e1 f1) := fun z => (HT9.out z).keep hex (fun k z => .inl (by have := HP5.out; omega)) (fun _ z => .inl z)
  have HSS : Hid (w3.heap.size ≤ w10.heap.size) := Nat.le_trans HS9.out hex.size
  clear hex hi HI9 HX9 HK9 HC5
  simp only []
  clear HT9 HS9
  go_upto_region 9 with fail
  go_wp2_with fail
  refine (HCE2.out p w10 HI10.out).mono ?_
  rintro e9 w11c ⟨f2, rfl, hex, hi, hti⟩
  have HXc : Hid (Ex (fun _ => False) w1 w11c) := HX10.out.trans2 hex (fun k z => .inr (by have := HP.out; omega))
  have HKc := hide (HK10.out.keep hex (by have := HP5.out; omega))
  have y9 := HKc.out.c9
  have yf9 := HKc.out.fz 9
  have y10 := HKc.out.c10
  have yf10 := HKc.out.fz 10
  have y11 := HKc.out.c11
  have yf11 := HKc.out.fz 11
  have y12 := HKc.out.c12
  have yf12 := HKc.out.fz 12
  have y13 := HKc.out.c13
  have yf13 := HKc.out.fz 13
  have y14 := HKc.out.c14
  have yf14 := HKc.out.fz 14
  have y15 := HKc.out.c15
  have yf15 := HKc.out.fz 15
  have exs := ex_setq w11c r f2
  have HI11 : Hid (InS (p + 1) p a cp s (setq w11c r f2) st6) := hi.ex exs (fun k z => by have := HP5.out; omega)
  have HX11 : Hid (Ex (fun _ => False) w1 (setq w11c r f2)) := HXc.out.trans2 exs (fun k z => .inr (by have := HP5.out; omega))
  have HK11 := hide (HKc.out.putq f2)
  have HU : Hid (isAt st6 → ET (setq w11c r f2) (fun k => k < w3.heap.size) e2 f2) := fun z => ((hti z).keep (Ex.refl (fun _ => False) _) (fun _ z => z.elim) (fun k z => .inl (by have := HSS.out; omega))).keep exs (fun k z => .inl (by have := HP5.out; omega)) (fun _ z => .inl z)
  have HSN : Hid (w3.heap.size ≤ (setq w11c r f2).heap.size) := Nat.le_trans HSS.out (Nat.le_trans hex.size exs.size)
  have HT11 : Hid (isAt st2 → ET (setq w11c r f2) (fun k => k < w3.heap.size) e1 f1) := fun z => ((HT10.out z).keep hex (fun k z => .inl (by have := HP5.out; omega)) (fun _ z => .inl z)).keep exs (fun k z => .inl (by have := HP5.out; omega)) (fun _ z => .inl z)
  clear hex hi hti HI10 HX10 HK10 HXc HKc exs HCE2
  unfold xV
  simp only []
  unfold setq at HI11 HX11 HK11 HU HSN HT11
  unfold x00 nb at y9 y10 y11 y12 y13 y14 y15
  dsimp only at y9 y10 y11 y12 y13 y14 y15
  go_upto_region 12 with fail
  generalize (((((((w11c).setCell ⟨r, 9, none⟩ (.int .i64 f2.k)).setCell ⟨r, 10, none⟩ (.string f2.x)).setCell ⟨r, 11, none⟩ (.int .i64 f2.n)).setCell ⟨r, 12, none⟩ (.string f2.m)).setCell ⟨r, 13, none⟩ (.slice f2.q f2.ql f2.qc)).setCell ⟨r, 14, none⟩ (.int .i64 f2.li)).setCell ⟨r, 15, none⟩ (.int .i64 f2.co) = w11 at *
  clear y9 yf9 y10 yf10 y11 yf11 y12 yf12 y13 yf13 y14 yf14 y15 yf15
  go_upto_region 12 with fail
  go_wp2_with fail
  refine (HC7.out p w11 HI11.out).mono ?_
  rintro e9 w12 ⟨rfl, hex, hi⟩
  have HI12 := hide hi
  have HX12 : Hid (Ex (fun _ => False) w1 w12) := HX11.out.trans2 hex (fun k z => .inr (by have := HP.out; omega))
  have HK12 := hide (HK11.out.keep hex (by have := HP5.out; omega))
  have HT12 : Hid (isAt st2 → ET w12 (fun k => k < w3.heap.size) e1 f1) := fun z => (HT11.out z).keep hex (fun k z => .inl (by have := HP5.out; omega)) (fun _ z => .inl z)
  have HU12 : Hid (isAt st6 → ET w12 (fun k => k < w3.heap.size) e2 f2) := fun z => (HU.out z).keep hex (fun k z => .inl (by have := HP5.out; omega)) (fun _ z => .inl z)
  clear hex hi HI11 HX11 HK11 HC7
  simp only []
  go_upto_region 13 with fail
  go_wp2_with fail
  refine (HC8.out p w12 HI12.out).mono ?_
  rintro e9 w13 ⟨rfl, hex, hi⟩
  have HI13 := hide hi
  have HX13 : Hid (Ex (fun _ => False) w1 w13) := HX12.out.trans2 hex (fun k z => .inr (by have := HP.out; omega))
  have HK13 := hide (HK12.out.keep hex (by have := HP5.out; omega))
  have HT13 : Hid (isAt st8 → ET w13 (fun k => k < w3.heap.size) e1 f1) := fun z => (HT12.out (HA3.out (HA4.out (HA5.out (HA6.out (HA8.out z)))))).keep hex (fun k z => .inl (by have := HP5.out; omega)) (fun _ z => .inl z)
  have HU13 : Hid (isAt st8 → ET w13 (fun k => k < w3.heap.size) e2 f2) := fun z => (HU12.out (HA8.out z)).keep hex (fun k z => .inl (by have := HP5.out; omega)) (fun _ z => .inl z)
  clear hex hi HI12 HX12 HK12 HC8
  unfold tkV
  simp only []
  clear HT10 HT11 HT12 HU HU12 HSS HSN
  obtain ⟨fe, fl, fc, g1, g2, g3, hfv, hfe⟩ := HI13.out.flt
  have HFV := hide hfv
  have HFE := hide hfe
  obtain ⟨hq2, ⟨b0, b1, b2⟩, fz3⟩ := HZ.out w13 HX13.out
  have a0 := hq2.c0
  have aF0 := hq2.fz 0
  have k0 := HK13.out.c0
  have a1 := hq2.c1
  have aF1 := hq2.fz 1
  have k1 := HK13.out.c1
  have a2 := hq2.c2
  have aF2 := hq2.fz 2
  have k2 := HK13.out.c2
  have a3 := hq2.c3
  have aF3 := hq2.fz 3
  have k3 := HK13.out.c3
  have a4 := hq2.c4
  have aF4 := hq2.fz 4
  have k4 := HK13.out.c4
  have a5 := hq2.c5
  have aF5 := hq2.fz 5
  have k5 := HK13.out.c5
  have a6 := hq2.c6
  have aF6 := hq2.fz 6
  have k6 := HK13.out.c6
  have a7 := hq2.c7
  have aF7 := hq2.fz 7
  have k7 := HK13.out.c7
  have a8 := hq2.c8
  have aF8 := hq2.fz 8
  have k8 := HK13.out.c8
  have a9 := hq2.c9
  have aF9 := hq2.fz 9
  have k9 := HK13.out.c9
  have a10 := hq2.c10
  have aF10 := hq2.fz 10
  have k10 := HK13.out.c10
  have a11 := hq2.c11
  have aF11 := hq2.fz 11
  have k11 := HK13.out.c11
  have a12 := hq2.c12
  have aF12 := hq2.fz 12
  have k12 := HK13.out.c12
  have a13 := hq2.c13
  have aF13 := hq2.fz 13
  have k13 := HK13.out.c13
  have a14 := hq2.c14
  have aF14 := hq2.fz 14
  have k14 := HK13.out.c14
  have a15 := hq2.c15
  have aF15 := hq2.fz 15
  have k15 := HK13.out.c15
  unfold x00 nb at a1 a2 a3 a4 a5 a6 a7 a9 a10 a11 a12 a13 a14 a15
  dsimp only at a1 a2 a3 a4 a5 a6 a7 a9 a10 a11 a12 a13 a14 a15
  have bF0 := fz3 0
  have bF1 := fz3 1
  have bF2 := fz3 2
  have hne : r2 ≠ r3 ∧ r2 ≠ r ∧ r3 ≠ r ∧ r2 ≠ p ∧ r3 ≠ p := by have := HP.out; have := HP5.out; have := HR2.out; omega
  obtain ⟨n1, n2, n3, n4, n5⟩ := hne
  have HFIN : Hid (∀ wz, Ex (fun k => k = r2 ∨ k = r3) w13 wz → QPost w R (.returned (.tuple #[prV true f1 xw f2, fltV st8])) wz) := fun wz ex => by
    rw [← HRR.out]
    have hr := HR2.out
    have hp := HP.out
    have hp5 := HP5.out
    have hb : ∀ k, k = r2 ∨ k = r3 → k < w3.heap.size ∨ w13.heap.size ≤ k := fun k z => .inl (by omega)
    have hD : ∀ k, k < w.heap.size → k < w3.heap.size ∨ w13.heap.size ≤ k := fun k z => .inl (by omega)
    exact ⟨true, xw, f1, f2, rfl, (HE1.out.trans HX13.out).trans2 ex (fun k z => .inr (by omega)), HFE.out, fun z => ⟨⟨rfl, rfl⟩, ⟨((HT13.out z).keep ex hb hD), ((HU13.out z).keep ex hb hD)⟩⟩⟩
  have exz : Ex (fun k => k = r2 ∨ k = r3) w13 ((((((((((((((((((((w13).setCell ⟨r2, 0, none⟩ (.bool true)).setCell ⟨r2, 1, none⟩ (.int .i64 f1.k)).setCell ⟨r2, 2, none⟩ (.string f1.x)).setCell ⟨r2, 3, none⟩ (.int .i64 f1.n)).setCell ⟨r2, 4, none⟩ (.string f1.m)).setCell ⟨r2, 5, none⟩ (.slice f1.q f1.ql f1.qc)).setCell ⟨r2, 6, none⟩ (.int .i64 f1.li)).setCell ⟨r2, 7, none⟩ (.int .i64 f1.co)).setCell ⟨r2, 8, none⟩ (.int .i64 xw)).setCell ⟨r2, 9, none⟩ (.int .i64 f2.k)).setCell ⟨r2, 10, none⟩ (.string f2.x)).setCell ⟨r2, 11, none⟩ (.int .i64 f2.n)).setCell ⟨r2, 12, none⟩ (.string f2.m)).setCell ⟨r2, 13, none⟩ (.slice f2.q f2.ql f2.qc)).setCell ⟨r2, 14, none⟩ (.int .i64 f2.li)).setCell ⟨r2, 15, none⟩ (.int .i64 f2.co)).setCell ⟨r3, 0, none⟩ (.int .i64 fe)).setCell ⟨r3, 1, none⟩ (.int .i64 fl)).setCell ⟨r3, 2, none⟩ (.int .i64 fc)).drew := ((((((((((((((((((((Ex.refl (fun k => k = r2 ∨ k = r3) w13).set (p := r2) (.inl rfl) _).set (p := r2) (.inl rfl) _).set (p := r2) (.inl rfl) _).set (p := r2) (.inl rfl) _).set (p := r2) (.inl rfl) _).set (p := r2) (.inl rfl) _).set (p := r2) (.inl rfl) _).set (p := r2) (.inl rfl) _).set (p := r2) (.inl rfl) _).set (p := r2) (.inl rfl) _).set (p := r2) (.inl rfl) _).set (p := r2) (.inl rfl) _).set (p := r2) (.inl rfl) _).set (p := r2) (.inl rfl) _).set (p := r2) (.inl rfl) _).set (p := r2) (.inl rfl) _).set (p := r3) (.inr rfl) _).set (p := r3) (.inr rfl) _).set (p := r3) (.inr rfl) _).drew
  have HLAST := hide (HFIN.out _ exz)
  rw [HFV.out] at HLAST
  unfold prV at HLAST
  
  
  
  
  clear exz HFIN hq2 fz3 hfv hfe HI13 HX13 HK13 HT13 HU13
  go_upto_region 14 with fail
  go_region
  go_wp2
  exact bodyPost_ret (by simp [results, Try.results19, go_sem, a0, a1, a2, a3, a4, a5, a6, a7, a8, a9, a10, a11, a12, a13, a14, a15, b0, b1, b2, n1, Ne.symm n1]) rfl HLAST.out
theorem propK (n : Nat) (R : Pp × PSt) (w : World) (hpj : pprop s n = some R) (hsrc : SrcAt w a s) (ha : ∀ (i : Nat) c, s[i]? = some c → ∀ g off, a = some ⟨g, off, none⟩ → g < w.heap.size) (hl2 : s.length ≤ 4611686018427387904) :
    Calls Try.prog 19 #[.slice a s.length cp] w (QPost w R) := by
  cases hac : (acceptS s bRSP (.at 0 0)).1
  · exact prop_inv n R w hpj hsrc ha hl2 hac
  · exact prop_rsp n R w hpj hsrc ha hl2 hac
end
end Go.Proofs.Qxb6500774a
