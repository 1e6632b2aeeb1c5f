import Derived.Test.Qxb6500774aGr5
namespace Go.Proofs.Qxb6500774a
open Go.RowKit

structure Sl where
  a : Option Addr
  l : Nat
  c : Nat
def Sl.v (s : Sl) : Value := .slice s.a s.l s.c
/-- A statement's ten cells. -/
structure St where
  k : Int
  m : ByteArray
  e : Sl
  ar : Sl
  el : Sl
  bo : Sl
  ag : Sl
  co : Sl
  li : Int
  cl : Int
def stL (t : St) : List Value := [.int .i64 t.k, .string t.m, .slice t.e.a t.e.l t.e.c, .slice t.ar.a t.ar.l t.ar.c, .slice t.el.a t.el.l t.el.c, .slice t.bo.a t.bo.l t.bo.c, .slice t.ag.a t.ag.l t.ag.c, .slice t.co.a t.co.l t.co.c, .int .i64 t.li, .int .i64 t.cl]
structure SB (w : World) (r : Nat) (t : St) : Prop where
  c0 : w.cell? ⟨r, 0, none⟩ = some (.int .i64 t.k)
  c1 : w.cell? ⟨r, 1, none⟩ = some (.string t.m)
  c2 : w.cell? ⟨r, 2, none⟩ = some (.slice t.e.a t.e.l t.e.c)
  c3 : w.cell? ⟨r, 3, none⟩ = some (.slice t.ar.a t.ar.l t.ar.c)
  c4 : w.cell? ⟨r, 4, none⟩ = some (.slice t.el.a t.el.l t.el.c)
  c5 : w.cell? ⟨r, 5, none⟩ = some (.slice t.bo.a t.bo.l t.bo.c)
  c6 : w.cell? ⟨r, 6, none⟩ = some (.slice t.ag.a t.ag.l t.ag.c)
  c7 : w.cell? ⟨r, 7, none⟩ = some (.slice t.co.a t.co.l t.co.c)
  c8 : w.cell? ⟨r, 8, none⟩ = some (.int .i64 t.li)
  c9 : w.cell? ⟨r, 9, none⟩ = some (.int .i64 t.cl)
  fz : ∀ j, w.frozen? ⟨r, j, none⟩ = false
theorem SB.new (w : World) (t : St) : SB (w.alloc (.cells #[.int .i64 t.k, .string t.m, .slice t.e.a t.e.l t.e.c, .slice t.ar.a t.ar.l t.ar.c, .slice t.el.a t.el.l t.el.c, .slice t.bo.a t.bo.l t.bo.c, .slice t.ag.a t.ag.l t.ag.c, .slice t.co.a t.co.l t.co.c, .int .i64 t.li, .int .i64 t.cl] 113)) w.heap.size t := by
  have n := fun j u h => new_cells w (stL t) 113 j u h
  exact ⟨n 0 _ rfl, n 1 _ rfl, n 2 _ rfl, n 3 _ rfl, n 4 _ rfl, n 5 _ rfl, n 6 _ rfl, n 7 _ rfl, n 8 _ rfl, n 9 _ rfl, fun j => by simp [go_sem]⟩
theorem SB.keep {w w' : World} {r : Nat} {t : St} (h : SB w r t) {S : Nat → Prop} (ex : Ex S w w') (hr : ¬ S r) : SB w' r t :=
  have hl : r < w.heap.size := World.block_lt_of_cell? _ _ h.c0
  ⟨ex.cell hr h.c0, ex.cell hr h.c1, ex.cell hr h.c2, ex.cell hr h.c3, ex.cell hr h.c4, ex.cell hr h.c5, ex.cell hr h.c6, ex.cell hr h.c7, ex.cell hr h.c8, ex.cell hr h.c9, fun j => (ex.frozen hr hl).trans (h.fz j)⟩
theorem SB.put0 {w : World} {r : Nat} {t : St} (h : SB w r t) (y : Int) : SB (w.setCell ⟨r, 0, none⟩ (.int .i64 y)) r { t with k := y } := by
  refine ⟨?_, ?_, ?_, ?_, ?_, ?_, ?_, ?_, ?_, ?_, fun j => (set_frozen _ _ _ _).trans (h.fz j)⟩
  all_goals simp [go_sem, h.c0, h.c1, h.c2, h.c3, h.c4, h.c5, h.c6, h.c7, h.c8, h.c9]
theorem SB.put1 {w : World} {r : Nat} {t : St} (h : SB w r t) (y : ByteArray) : SB (w.setCell ⟨r, 1, none⟩ (.string y)) r { t with m := y } := by
  refine ⟨?_, ?_, ?_, ?_, ?_, ?_, ?_, ?_, ?_, ?_, fun j => (set_frozen _ _ _ _).trans (h.fz j)⟩
  all_goals simp [go_sem, h.c0, h.c1, h.c2, h.c3, h.c4, h.c5, h.c6, h.c7, h.c8, h.c9]
theorem SB.put2 {w : World} {r : Nat} {t : St} (h : SB w r t) (y : Sl) : SB (w.setCell ⟨r, 2, none⟩ (.slice y.a y.l y.c)) r { t with e := y } := by
  refine ⟨?_, ?_, ?_, ?_, ?_, ?_, ?_, ?_, ?_, ?_, fun j => (set_frozen _ _ _ _).trans (h.fz j)⟩
  all_goals simp [go_sem, h.c0, h.c1, h.c2, h.c3, h.c4, h.c5, h.c6, h.c7, h.c8, h.c9]
theorem SB.put3 {w : World} {r : Nat} {t : St} (h : SB w r t) (y : Sl) : SB (w.setCell ⟨r, 3, none⟩ (.slice y.a y.l y.c)) r { t with ar := y } := by
  refine ⟨?_, ?_, ?_, ?_, ?_, ?_, ?_, ?_, ?_, ?_, fun j => (set_frozen _ _ _ _).trans (h.fz j)⟩
  all_goals simp [go_sem, h.c0, h.c1, h.c2, h.c3, h.c4, h.c5, h.c6, h.c7, h.c8, h.c9]
theorem SB.put5 {w : World} {r : Nat} {t : St} (h : SB w r t) (y : Sl) : SB (w.setCell ⟨r, 5, none⟩ (.slice y.a y.l y.c)) r { t with bo := y } := by
  refine ⟨?_, ?_, ?_, ?_, ?_, ?_, ?_, ?_, ?_, ?_, fun j => (set_frozen _ _ _ _).trans (h.fz j)⟩
  all_goals simp [go_sem, h.c0, h.c1, h.c2, h.c3, h.c4, h.c5, h.c6, h.c7, h.c8, h.c9]
/-- a statement's reader leaves: its own block's cells, the parser, and new memory -/
def RetS (B p q : Nat) (a : Option Addr) (cp : Nat) (s : List Int) (w : World) (d : Int) (L : List Tk) (r : Option Int) (e : Ending) (w' : World) : Prop :=
  e = .returned (.tuple #[]) ∧ Ex (fun k => k = p ∨ k = q) w w' ∧ (∃ t, SB w' q t) ∧ Out B p a cp s w' d L r
section
variable {B p : Nat} {a : Option Addr} {cp : Nat} {s : List Int}
theorem Ex.l {p q : Nat} {w w' : World} (h : Ex (fun k => k = p) w w') : Ex (fun k => k = p ∨ k = q) w w' := h.mono fun _ e => .inl e
theorem Ex.r {p q : Nat} {w w' : World} (h : Ex (fun k => k = q) w w') : Ex (fun k => k = p ∨ k = q) w w' := h.mono fun _ e => .inr e
set_option maxRecDepth 100000 in
set_option maxHeartbeats 4000000 in
/-- parser.simple: an assignment -/
theorem simple_asg {w : World} {d : Int} {x ae u n : Tk} {its : List It} {L : List Tk} {q : Nat} {st : St} (hq : B ≤ q) (hsb : SB w q st) (hx : x.k = 2) (has : isM ae ⟨#[58, 61]⟩ = true) (hits : ∀ i ∈ its, i.Ok) (hn : n.k = 2 ∨ n.k = 3) (hd : 0 ≤ d ∧ d ≤ 64) (hu : Stop u) (hat : At B p a cp s w d (x :: ae :: (toks its n ++ u :: L))) :
    Calls Try.prog 73 #[.pointer (some ⟨p, 0, none⟩), .pointer (some ⟨q, 0, none⟩)] w (RetS B p q a cp s w d (u :: L) (deepAt its d)) := by
  have hb := hat.hB
  have hpq : p ≠ q := by omega
  have HSB := hide hsb
  have HAS := hide has
  have HE := hide (expr_all (B := B) (p := p) (a := a) (cp := cp) (s := s) hn its hits)
  have HU := hide hu
  have HPL := hide (place_name hat hx (isM_ne has (by rw [ByteArray.toList_eq, ByteArray.toList_eq]; rfl)) (isM_ne has (by rw [ByteArray.toList_eq, ByteArray.toList_eq]; rfl)))
  obtain ⟨y, L0, hL⟩ := toks_cons its n (u :: L)
  have HL := hide hL
  rw [hL] at HPL
  clear hsb hx has hits hn hu hat hL
  go_enter Try.func73, Try.ntmps73
  go_wp2_with fail
  refine (HPL.out).mono ?_
  rintro e w2 ⟨v, hv3, rfl, hex, hat⟩
  have d3 : (v.k != 3) = false := by rw [hv3]; rfl
  clear hv3
  have hr2 := XB.new w2 v
  have hs3 := (Ex.refl (fun _ => False) w2).alloc (.cells #[.int .i64 v.k, .string v.x, .int .i64 v.n, .string v.m, .slice v.q v.ql v.qc, .int .i64 v.li, .int .i64 v.co] 47)
  have HR3 := hide hr2
  have HSB3 := hide ((HSB.out.keep hex (by omega)).keep hs3 (fun e => e))
  have HE3 := hide ((hex.l (q := q)).trans2 hs3 (fun j e => e.elim))
  have HAT3 := hide (hat.ex hs3 (fun _ e => e.elim))
  have hqr : q < w2.heap.size := World.block_lt_of_cell? _ _ (HSB.out.keep hex (by omega)).c0
  have hwr : w.heap.size ≤ w2.heap.size := hex.size
  clear hr2 hs3 hex hat HSB HPL
  unfold xpV
  simp only []
  go_upto_region 1 with fail
  generalize w2.alloc (.cells #[.int .i64 v.k, .string v.x, .int .i64 v.n, .string v.m, .slice v.q v.ql v.qc, .int .i64 v.li, .int .i64 v.co] 47) = w3 at *
  generalize w2.heap.size = r at *
  have T0 := HR3.out.c0
  obtain ⟨o3, hps3, hst3⟩ := id HAT3.out
  have HAC := hide (accept_no hps3 ⟨#[40]⟩ (isM_ne HAS.out (by rw [ByteArray.toList_eq, ByteArray.toList_eq]; rfl)))
  have HXP := hide (expect_yes HAT3.out ⟨#[58, 61]⟩ HAS.out)
  clear hps3 hst3 HAT3
  go_upto_region 3 with (first | (go_at_call 43; refine (HAC.out).mono ?_; rintro e wq ⟨rfl, rfl⟩; simp only []) | (go_at_call 34; refine (HXP.out).mono ?_; rintro e w4 ⟨rfl, hex, hat⟩; have HEX := hide hex; have HAT4 := hide hat; clear hex hat; simp only []))
  have HR4 := hide (HR3.out.keep HEX.out (by omega))
  have HSB4 := hide (HSB3.out.keep HEX.out (by omega))
  have HE4 := hide (HE3.out.trans (HEX.out.l (q := q)))
  clear HEX HR3 HSB3 HE3 HAC HXP T0 d3
  have q0 := HSB4.out.c0
  have qf0 := HSB4.out.fz 0
  go_upto_region 4 with fail
  have hs5 := (Ex.refl (fun k => k = q) w4).set (p := q) (j := 0) rfl (.int .i64 0)
  have HR5 := hide (HR4.out.keep hs5 (by omega))
  have HSB5 := hide (HSB4.out.put0 0)
  have HE5 := hide (HE4.out.trans (hs5.r (p := p)))
  have HAT5 := hide (HAT4.out.ex hs5 (fun k e => by omega))
  generalize w4.setCell ⟨q, 0, none⟩ (.int .i64 0) = w5 at *
  clear hs5 HR4 HSB4 HE4 HAT4 q0 qf0
  have HX6 : Hid (Calls Try.prog 44 #[.pointer (some ⟨p, 0, none⟩), .int .i64 1] w5.drew (RetX p w5.drew fun w' => Out B p a cp s w' d (u :: L) (deepAt its d))) := HE.out w5.drew d u L (by omega) HU.out (by rw [HL.out]; exact HAT5.out.ex (S := fun _ => False) (Ex.refl _ _).drew (fun _ e => e.elim))
  have T0 := HR5.out.c0
  have T1 := HR5.out.c1
  have T2 := HR5.out.c2
  have T3 := HR5.out.c3
  have T4 := HR5.out.c4
  have T5 := HR5.out.c5
  have T6 := HR5.out.c6
  have q2 := HSB5.out.c2
  have qf2 := HSB5.out.fz 2
  go_region_held3 (fun w' => w'.cell? ⟨r, 0, none⟩ = some (.int .i64 v.k) ∧ w'.cell? ⟨r, 1, none⟩ = some (.string v.x) ∧ w'.cell? ⟨r, 2, none⟩ = some (.int .i64 v.n) ∧ w'.cell? ⟨r, 3, none⟩ = some (.string v.m) ∧ w'.cell? ⟨r, 4, none⟩ = some (.slice v.q v.ql v.qc) ∧ w'.cell? ⟨r, 5, none⟩ = some (.int .i64 v.li) ∧ w'.cell? ⟨r, 6, none⟩ = some (.int .i64 v.co)) (simp [*, go_sem])
    (first
      | (go_at_call 44; refine (HX6.out).mono ?_; rintro e w6 ⟨x2, rfl, hex, hout⟩; have hex2 := Ex.of_drew hex; have hr6 := HR5.out.keep hex2 (by omega); have S0 := hr6.c0; have hlt6 : r < w6.heap.size := World.block_lt_of_cell? _ _ S0; have S1 := hr6.c1; have S2 := hr6.c2; have S3 := hr6.c3; have S4 := hr6.c4; have S5 := hr6.c5; have S6 := hr6.c6; have hsb6 := HSB5.out.keep hex2 (by omega); have k2 := hsb6.c2; have kf2 := hsb6.fz 2; have hlq6 : q < w6.heap.size := World.block_lt_of_cell? _ _ k2; have HSB6 := hide hsb6; have HE6 := hide (HE5.out.trans (hex2.l (q := q))); have HOUT := hide hout; clear hex hex2 hr6 hout hsb6; unfold xpV))
  all_goals
    clear HR5 HSB5 HE5 HAT5 HX6
    go_wp2
  have hs7 := ((Ex.refl (fun k => k = q) w6).set (p := q) (j := 2) rfl (.slice (some ⟨w6.heap.size, 0, none⟩) 2 2)).alloc (.cells #[.int .i64 v.k, .string v.x, .int .i64 v.n, .string v.m, .slice v.q v.ql v.qc, .int .i64 v.li, .int .i64 v.co, .int .i64 x2.k, .string x2.x, .int .i64 x2.n, .string x2.m, .slice x2.q x2.ql x2.qc, .int .i64 x2.li, .int .i64 x2.co] 47)
  have hsb7 := (HSB6.out.put2 ⟨some ⟨w6.heap.size, 0, none⟩, 2, 2⟩).keep (S := fun _ => False) ((Ex.refl _ _).alloc (.cells #[.int .i64 v.k, .string v.x, .int .i64 v.n, .string v.m, .slice v.q v.ql v.qc, .int .i64 v.li, .int .i64 v.co, .int .i64 x2.k, .string x2.x, .int .i64 x2.n, .string x2.m, .slice x2.q x2.ql x2.qc, .int .i64 x2.li, .int .i64 x2.co] 47)) (fun e => e)
  exact bodyPost_ret (v := .tuple #[]) (by simp [results, Try.results73]) rfl ⟨rfl, HE6.out.trans (hs7.r (p := p)), ⟨_, hsb7⟩, HOUT.out.ex hs7 (fun k e => by omega)⟩
end
end Go.Proofs.Qxb6500774a
