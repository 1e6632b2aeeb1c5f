import Derived.Test.Qxb6500774aKw1
namespace Go.Proofs.Qxb6500774a
open Go.RowKit
set_option linter.unusedVariables false
set_option linter.unusedSimpArgs false

section
variable {B p : Nat} {a : Option Addr} {cp : Nat} {s : List Int}
structure QK (w : World) (r : Nat) (b : Bool) (f1 : XP) (wi : Int) (f2 : XP) : Prop where
  c0 : w.cell? ⟨r, 0, none⟩ = some (.bool b)
  c1 : w.cell? ⟨r, 1, none⟩ = some (.int .i64 f1.k)
  c2 : w.cell? ⟨r, 2, none⟩ = some (.string f1.x)
  c3 : w.cell? ⟨r, 3, none⟩ = some (.int .i64 f1.n)
  c4 : w.cell? ⟨r, 4, none⟩ = some (.string f1.m)
  c5 : w.cell? ⟨r, 5, none⟩ = some (.slice f1.q f1.ql f1.qc)
  c6 : w.cell? ⟨r, 6, none⟩ = some (.int .i64 f1.li)
  c7 : w.cell? ⟨r, 7, none⟩ = some (.int .i64 f1.co)
  c8 : w.cell? ⟨r, 8, none⟩ = some (.int .i64 wi)
  c9 : w.cell? ⟨r, 9, none⟩ = some (.int .i64 f2.k)
  c10 : w.cell? ⟨r, 10, none⟩ = some (.string f2.x)
  c11 : w.cell? ⟨r, 11, none⟩ = some (.int .i64 f2.n)
  c12 : w.cell? ⟨r, 12, none⟩ = some (.string f2.m)
  c13 : w.cell? ⟨r, 13, none⟩ = some (.slice f2.q f2.ql f2.qc)
  c14 : w.cell? ⟨r, 14, none⟩ = some (.int .i64 f2.li)
  c15 : w.cell? ⟨r, 15, none⟩ = some (.int .i64 f2.co)
  fz : ∀ j, w.frozen? ⟨r, j, none⟩ = false
section
variable {w w' : World} {r : Nat} {b : Bool} {f1 f2 : XP} {wi : Int}
theorem QK.lt (h : QK w r b f1 wi f2) : r < w.heap.size := World.block_lt_of_cell? _ _ h.c0
theorem QK.keep (h : QK w r b f1 wi f2) {T : Nat → Prop} (ex : Ex T w w') (hr : ¬ T r) : QK w' r b f1 wi f2 := ⟨ex.cell hr h.c0, ex.cell hr h.c1, ex.cell hr h.c2, ex.cell hr h.c3, ex.cell hr h.c4, ex.cell hr h.c5, ex.cell hr h.c6, ex.cell hr h.c7, ex.cell hr h.c8, ex.cell hr h.c9, ex.cell hr h.c10, ex.cell hr h.c11, ex.cell hr h.c12, ex.cell hr h.c13, ex.cell hr h.c14, ex.cell hr h.c15, fun j => (ex.frozen hr h.lt).trans (h.fz j)⟩
theorem QK.new (w : World) : QK (w.alloc (.cells #[.bool false, .int .i64 0, .string ⟨#[]⟩, .int .i64 0, .string ⟨#[]⟩, .slice none 0 0, .int .i64 0, .int .i64 0, .int .i64 0, .int .i64 0, .string ⟨#[]⟩, .int .i64 0, .string ⟨#[]⟩, .slice none 0 0, .int .i64 0, .int .i64 0] 49)) w.heap.size false x00 0 x00 := by
  have n := fun j u h => new_cells w [.bool false, .int .i64 0, .string ⟨#[]⟩, .int .i64 0, .string ⟨#[]⟩, .slice none 0 0, .int .i64 0, .int .i64 0, .int .i64 0, .int .i64 0, .string ⟨#[]⟩, .int .i64 0, .string ⟨#[]⟩, .slice none 0 0, .int .i64 0, .int .i64 0] 49 j u h
  exact ⟨n 0 _ rfl, n 1 _ rfl, n 2 _ rfl, n 3 _ rfl, n 4 _ rfl, n 5 _ rfl, n 6 _ rfl, n 7 _ rfl, n 8 _ rfl, n 9 _ rfl, n 10 _ rfl, n 11 _ rfl, n 12 _ rfl, n 13 _ rfl, n 14 _ rfl, n 15 _ rfl, fun j => by simp [go_sem]⟩
theorem QK.putb (h : QK w r b f1 wi f2) (b' : Bool) : QK (w.setCell ⟨r, 0, none⟩ (.bool b')) r b' f1 wi f2 := by
  refine ⟨?_, ?_, ?_, ?_, ?_, ?_, ?_, ?_, ?_, ?_, ?_, ?_, ?_, ?_, ?_, ?_, fun j => by rw [set_frozen]; exact h.fz j⟩
  all_goals simp [go_sem, h.c0, h.c1, h.c2, h.c3, h.c4, h.c5, h.c6, h.c7, h.c8, h.c9, h.c10, h.c11, h.c12, h.c13, h.c14, h.c15]
theorem QK.putw (h : QK w r b f1 wi f2) (x : Int) : QK (w.setCell ⟨r, 8, none⟩ (.int .i64 x)) r b f1 x f2 := by
  refine ⟨?_, ?_, ?_, ?_, ?_, ?_, ?_, ?_, ?_, ?_, ?_, ?_, ?_, ?_, ?_, ?_, fun j => by rw [set_frozen]; exact h.fz j⟩
  all_goals simp [go_sem, h.c0, h.c1, h.c2, h.c3, h.c4, h.c5, h.c6, h.c7, h.c8, h.c9, h.c10, h.c11, h.c12, h.c13, h.c14, h.c15]
def setp (w : World) (r : Nat) (f : XP) : World := (((((((w).setCell ⟨r, 1, none⟩ (.int .i64 f.k)).setCell ⟨r, 2, none⟩ (.string f.x)).setCell ⟨r, 3, none⟩ (.int .i64 f.n)).setCell ⟨r, 4, none⟩ (.string f.m)).setCell ⟨r, 5, none⟩ (.slice f.q f.ql f.qc)).setCell ⟨r, 6, none⟩ (.int .i64 f.li)).setCell ⟨r, 7, none⟩ (.int .i64 f.co)
def setq (w : World) (r : Nat) (f : XP) : World := (((((((w).setCell ⟨r, 9, none⟩ (.int .i64 f.k)).setCell ⟨r, 10, none⟩ (.string f.x)).setCell ⟨r, 11, none⟩ (.int .i64 f.n)).setCell ⟨r, 12, none⟩ (.string f.m)).setCell ⟨r, 13, none⟩ (.slice f.q f.ql f.qc)).setCell ⟨r, 14, none⟩ (.int .i64 f.li)).setCell ⟨r, 15, none⟩ (.int .i64 f.co)
theorem QK.putp (h : QK w r b f1 wi f2) (f : XP) : QK (setp w r f) r b f wi f2 := by
  unfold setp
  refine ⟨?_, ?_, ?_, ?_, ?_, ?_, ?_, ?_, ?_, ?_, ?_, ?_, ?_, ?_, ?_, ?_, fun j => by rw [set_frozen, set_frozen, set_frozen, set_frozen, set_frozen, set_frozen, set_frozen]; exact h.fz j⟩
  all_goals simp [go_sem, h.c0, h.c1, h.c2, h.c3, h.c4, h.c5, h.c6, h.c7, h.c8, h.c9, h.c10, h.c11, h.c12, h.c13, h.c14, h.c15]
theorem QK.putq (h : QK w r b f1 wi f2) (f : XP) : QK (setq w r f) r b f1 wi f := by
  unfold setq
  refine ⟨?_, ?_, ?_, ?_, ?_, ?_, ?_, ?_, ?_, ?_, ?_, ?_, ?_, ?_, ?_, ?_, fun j => by rw [set_frozen, set_frozen, set_frozen, set_frozen, set_frozen, set_frozen, set_frozen]; exact h.fz j⟩
  all_goals simp [go_sem, h.c0, h.c1, h.c2, h.c3, h.c4, h.c5, h.c6, h.c7, h.c8, h.c9, h.c10, h.c11, h.c12, h.c13, h.c14, h.c15]
theorem ex_setp (w : World) (r : Nat) (f : XP) : Ex (fun k => k = r) w (setp w r f) := (((((((Ex.refl (fun k => k = r) w).set (p := r) rfl _).set (p := r) rfl _).set (p := r) rfl _).set (p := r) rfl _).set (p := r) rfl _).set (p := r) rfl _).set (p := r) rfl _
theorem ex_setq (w : World) (r : Nat) (f : XP) : Ex (fun k => k = r) w (setq w r f) := (((((((Ex.refl (fun k => k = r) w).set (p := r) rfl _).set (p := r) rfl _).set (p := r) rfl _).set (p := r) rfl _).set (p := r) rfl _).set (p := r) rfl _).set (p := r) rfl _
end
def bRSP : ByteArray := ⟨#[82, 69, 83, 80, 79, 78, 83, 69]⟩
def bWIT : ByteArray := ⟨#[87, 73, 84, 72, 73, 78]⟩
def bINV : ByteArray := ⟨#[73, 78, 86, 65, 82, 73, 65, 78, 84]⟩
structure Pp where
  re : Bool
  p : E
  wi : Int
  q : Option E
/-- ParseProperty, plain -/
def pprop (s : List Int) (n : Nat) : Option (Pp × PSt) := if (acceptS s bRSP (.at 0 0)).1 = true then
    (match pj s n (.expr 1) (acceptS s bRSP (.at 0 0)).2 with
     | none => none
     | some (e1, st1) => match pj s n (.expr 1) (expectS s bTHN (takeS s 3 (expectS s bWIT st1)).2) with
       | none => none
       | some (e2, st2) => some (⟨true, e1, (takeS s 3 (expectS s bWIT st1)).1.v, some e2⟩, (takeS s 0 (expectS s bSEM st2)).2))
  else match pj s n (.expr 1) (expectS s bINV (.at 0 0)) with
    | none => none
    | some (e1, st1) => some (⟨false, e1, 0, none⟩, (takeS s 0 (expectS s bSEM st1)).2)
def prV (b : Bool) (f1 : XP) (wi : Int) (f2 : XP) : Value := .agg #[.bool b, .int .i64 f1.k, .string f1.x, .int .i64 f1.n, .string f1.m, .slice f1.q f1.ql f1.qc, .int .i64 f1.li, .int .i64 f1.co, .int .i64 wi, .int .i64 f2.k, .string f2.x, .int .i64 f2.n, .string f2.m, .slice f2.q f2.ql f2.qc, .int .i64 f2.li, .int .i64 f2.co]
def OE (w : World) (D : Nat → Prop) : Option E → XP → Prop
  | none, f => f = x00
  | some e, f => ET w D e f
theorem OE.keep {w w' : World} {D D' T : Nat → Prop} (ex : Ex T w w') (hS : ∀ g, T g → D g ∨ w.heap.size ≤ g) (hD : ∀ g, D' g → D g ∨ w.heap.size ≤ g) {o : Option E} {f : XP} (h : OE w D o f) : OE w' D' o f := by
  cases o with
  | none => exact h
  | some e => exact ET.keep ex hS hD h
def QPost (w : World) (R : Pp × PSt) (e : Ending) (w' : World) : Prop := ∃ (b : Bool) (wi : Int) (f1 f2 : XP), e = .returned (.tuple #[prV b f1 wi f2, fltV R.2]) ∧ Ex (fun _ => False) w w' ∧ (isB R.2 → erOf R.2 ≠ 0) ∧ (isAt R.2 → (b = R.1.re ∧ wi = R.1.wi) ∧ ET w' (fun k => k < w.heap.size) R.1.p f1 ∧ OE w' (fun k => k < w.heap.size) R.1.q f2)
set_option linter.unusedSimpArgs false in
set_option linter.unusedVariables false in
set_option maxRecDepth 100000 in
set_option maxHeartbeats 32000000 in
theorem prop_inv (n : Nat) (R : Pp × PSt) (w : World) (hpj : pprop s n = some R) (hsrc : SrcAt w a s) (ha : ∀ (i : Nat) c, s[i]? = some c → ∀ g off, a = some ⟨g, off, none⟩ → g < w.heap.size) (hl2 : s.length ≤ 4611686018427387904) (hac : (acceptS s bRSP (.at 0 0)).1 = false) :
    Calls Try.prog 19 #[.slice a s.length cp] w (QPost w R) := by
  have eq1 : Ex (fun _ => False) w ((w.alloc (.cells #[.bool false, .int .i64 0, .string ⟨#[]⟩, .int .i64 0, .string ⟨#[]⟩, .slice none 0 0, .int .i64 0, .int .i64 0, .int .i64 0, .int .i64 0, .string ⟨#[]⟩, .int .i64 0, .string ⟨#[]⟩, .slice none 0 0, .int .i64 0, .int .i64 0] 49)).alloc (.cells #[.int .i64 0, .int .i64 0, .int .i64 0] 36)) := ((Ex.refl _ _).alloc _).alloc _
  have HNP := hide (newParserK (a := a) (cp := cp) (s := s) ((w.alloc (.cells #[.bool false, .int .i64 0, .string ⟨#[]⟩, .int .i64 0, .string ⟨#[]⟩, .slice none 0 0, .int .i64 0, .int .i64 0, .int .i64 0, .int .i64 0, .string ⟨#[]⟩, .int .i64 0, .string ⟨#[]⟩, .slice none 0 0, .int .i64 0, .int .i64 0] 49)).alloc (.cells #[.int .i64 0, .int .i64 0, .int .i64 0] 36)) (fun i c hc => by
    obtain ⟨b, off, e, hx⟩ := hsrc i c hc
    exact ⟨b, off, e, eq1.cell (fun z => z) hx⟩) (fun i c hc g off e => by have := ha i c hc g off e; have := eq1.size; omega) hl2)
  have q2 := QK.new w
  have n3 := fun j u h => new_cells (w.alloc (.cells #[.bool false, .int .i64 0, .string ⟨#[]⟩, .int .i64 0, .string ⟨#[]⟩, .slice none 0 0, .int .i64 0, .int .i64 0, .int .i64 0, .int .i64 0, .string ⟨#[]⟩, .int .i64 0, .string ⟨#[]⟩, .slice none 0 0, .int .i64 0, .int .i64 0] 49)) [.int .i64 0, .int .i64 0, .int .i64 0] 36 j u h
  have hs1 : (w.alloc (.cells #[.bool false, .int .i64 0, .string ⟨#[]⟩, .int .i64 0, .string ⟨#[]⟩, .slice none 0 0, .int .i64 0, .int .i64 0, .int .i64 0, .int .i64 0, .string ⟨#[]⟩, .int .i64 0, .string ⟨#[]⟩, .slice none 0 0, .int .i64 0, .int .i64 0] 49)).heap.size = w.heap.size + 1 := by simp
  have HZ : Hid (∀ wz, Ex (fun _ => False) ((w.alloc (.cells #[.bool false, .int .i64 0, .string ⟨#[]⟩, .int .i64 0, .string ⟨#[]⟩, .slice none 0 0, .int .i64 0, .int .i64 0, .int .i64 0, .int .i64 0, .string ⟨#[]⟩, .int .i64 0, .string ⟨#[]⟩, .slice none 0 0, .int .i64 0, .int .i64 0] 49)).alloc (.cells #[.int .i64 0, .int .i64 0, .int .i64 0] 36)) wz → QK wz w.heap.size false x00 0 x00 ∧ (wz.cell? ⟨w.heap.size + 1, 0, none⟩ = some (.int .i64 0) ∧ wz.cell? ⟨w.heap.size + 1, 1, none⟩ = some (.int .i64 0) ∧ wz.cell? ⟨w.heap.size + 1, 2, none⟩ = some (.int .i64 0)) ∧ (∀ j, wz.frozen? ⟨w.heap.size + 1, j, none⟩ = false)) := fun wz ex => by
    have m3 := fun j u h => ex.cell (fun z => z) (by have := n3 j u h; rw [show (⟨(w.alloc (.cells #[.bool false, .int .i64 0, .string ⟨#[]⟩, .int .i64 0, .string ⟨#[]⟩, .slice none 0 0, .int .i64 0, .int .i64 0, .int .i64 0, .int .i64 0, .string ⟨#[]⟩, .int .i64 0, .string ⟨#[]⟩, .slice none 0 0, .int .i64 0, .int .i64 0] 49)).heap.size, 0, none⟩ : Addr).add j = ⟨(w.alloc (.cells #[.bool false, .int .i64 0, .string ⟨#[]⟩, .int .i64 0, .string ⟨#[]⟩, .slice none 0 0, .int .i64 0, .int .i64 0, .int .i64 0, .int .i64 0, .string ⟨#[]⟩, .int .i64 0, .string ⟨#[]⟩, .slice none 0 0, .int .i64 0, .int .i64 0] 49)).heap.size, j, none⟩ by unfold Addr.add; split <;> simp_all] at this; exact this)
    rw [hs1] at m3
    exact ⟨(q2.keep ((Ex.refl (fun _ => False) _).alloc _) (fun z => z)).keep ex (fun z => z), ⟨m3 0 _ rfl, m3 1 _ rfl, m3 2 _ rfl⟩, fun j => (ex.frozen (fun z => z) (by simp)).trans (by rw [← hs1]; simp [go_sem])⟩
  have HE1 := hide eq1
  clear q2 n3
  obtain ⟨e1, st6, hp1, hr⟩ : ∃ e1 st6, pj s n (.expr 1) (expectS s bINV (.at 0 0)) = some (e1, st6) ∧ (⟨false, e1, 0, none⟩, (takeS s 0 (expectS s bSEM st6)).2) = R := by
    unfold pprop at hpj
    rw [if_neg (by rw [hac]; decide)] at hpj
    split at hpj
    · cases hpj
    · next e1 st6 h1 => injection hpj with hpj; exact ⟨e1, st6, h1, hpj⟩
  have hd0 : (0 : Int) ≤ 0 ∧ (0 : Int) ≤ 64 := ⟨by omega, by omega⟩
  have hda1 : DA 0 (expectS s bINV (.at 0 0)) := expectS_da (show DA 0 (.at 0 0) from rfl) _
  have HA8 : Hid (isAt (takeS s 0 (expectS s bSEM st6)).2 → isAt st6) := fun z => isAt.ex (isAt.take z).1
  have HCE1 : Hid (∀ (p : Nat) wz, InS (p + 1) p a cp s wz (expectS s bINV (.at 0 0)) → Calls Try.prog 44 #[.pointer (some ⟨p, 0, none⟩), .int .i64 1] wz (XPost (p + 1) p a cp s wz (e1, st6))) := fun p wz hz => expr_any wz hp1 hz (hda1.ok hd0)
  have hst : (acceptS s bRSP (.at 0 0)).2 = .at 0 0 := by
    unfold acceptS at hac ⊢
    split at hac
    · cases hac
    · next h => rw [if_neg h]
  have HC1 : Hid (∀ (p : Nat) wz, InS (p + 1) p a cp s wz (.at 0 0) → _) := fun p wz hz => acceptK_any (B := p + 1) (p := p) wz hz bRSP
  rw [hac, hst] at HC1
  have HC3 : Hid (∀ (p : Nat) wz, InS (p + 1) p a cp s wz (.at 0 0) → _) := fun p wz hz => expectK_any (B := p + 1) (p := p) wz hz bINV
  have HC7 : Hid (∀ (p : Nat) wz, InS (p + 1) p a cp s wz st6 → _) := fun p wz hz => expectK_any (B := p + 1) (p := p) wz hz bSEM
  have HC8 : Hid (∀ (p : Nat) wz, InS (p + 1) p a cp s wz (expectS s bSEM st6) → _) := fun p wz hz => takeK_any (B := p + 1) (p := p) wz hz 0 (by decide)
  have HRR := hide hr
  clear hpj hp1 hr hda1 hd0 hsrc ha hl2 hs1 eq1 hac hst
  generalize (takeS s 0 (expectS s bSEM st6)).2 = st8 at *
  generalize (takeS s 0 (expectS s bSEM st6)).1 = t8 at *
  generalize expectS s bSEM st6 = st7 at *
  unfold bSEM at HC7
  generalize expectS s bINV (.at 0 0) = st5 at *
  unfold bRSP at HC1
  unfold bINV at HC3
  have HS0 : Hid (w.heap.size + 2 ≤ ((w.alloc (.cells #[.bool false, .int .i64 0, .string ⟨#[]⟩, .int .i64 0, .string ⟨#[]⟩, .slice none 0 0, .int .i64 0, .int .i64 0, .int .i64 0, .int .i64 0, .string ⟨#[]⟩, .int .i64 0, .string ⟨#[]⟩, .slice none 0 0, .int .i64 0, .int .i64 0] 49)).alloc (.cells #[.int .i64 0, .int .i64 0, .int .i64 0] 36)).heap.size) := by show _ ≤ _; simp
  go_enter Try.func19, Try.ntmps19
  go_upto_region 1 with fail
  go_wp2_with fail
  refine HNP.out.mono ?_
  rintro e9 w2 ⟨p, rfl, hex, hp, hi⟩
  have exz : Ex (fun _ => False) w2 (w2.alloc (.cells #[.bool false, .int .i64 0, .string ⟨#[]⟩, .int .i64 0, .string ⟨#[]⟩, .slice none 0 0, .int .i64 0, .int .i64 0, .int .i64 0, .int .i64 0, .string ⟨#[]⟩, .int .i64 0, .string ⟨#[]⟩, .slice none 0 0, .int .i64 0, .int .i64 0] 49)) := (Ex.refl _ _).alloc _
  have HI := hide (hi.ex exz (fun _ z => z.elim))
  have HX := hide (hex.trans exz)
  have HP : Hid (((w.alloc (.cells #[.bool false, .int .i64 0, .string ⟨#[]⟩, .int .i64 0, .string ⟨#[]⟩, .slice none 0 0, .int .i64 0, .int .i64 0, .int .i64 0, .int .i64 0, .string ⟨#[]⟩, .int .i64 0, .string ⟨#[]⟩, .slice none 0 0, .int .i64 0, .int .i64 0] 49)).alloc (.cells #[.int .i64 0, .int .i64 0, .int .i64 0] 36)).heap.size ≤ p ∧ w.heap.size + 2 ≤ ((w.alloc (.cells #[.bool false, .int .i64 0, .string ⟨#[]⟩, .int .i64 0, .string ⟨#[]⟩, .slice none 0 0, .int .i64 0, .int .i64 0, .int .i64 0, .int .i64 0, .string ⟨#[]⟩, .int .i64 0, .string ⟨#[]⟩, .slice none 0 0, .int .i64 0, .int .i64 0] 49)).alloc (.cells #[.int .i64 0, .int .i64 0, .int .i64 0] 36)).heap.size) := ⟨hp, HS0.out⟩
  have HK := hide (QK.new w2)
  have HP5 : Hid (p < w2.heap.size ∧ w2.heap.size < (w2.alloc (.cells #[.bool false, .int .i64 0, .string ⟨#[]⟩, .int .i64 0, .string ⟨#[]⟩, .slice none 0 0, .int .i64 0, .int .i64 0, .int .i64 0, .int .i64 0, .string ⟨#[]⟩, .int .i64 0, .string ⟨#[]⟩, .slice none 0 0, .int .i64 0, .int .i64 0] 49)).heap.size ∧ ((w.alloc (.cells #[.bool false, .int .i64 0, .string ⟨#[]⟩, .int .i64 0, .string ⟨#[]⟩, .slice none 0 0, .int .i64 0, .int .i64 0, .int .i64 0, .int .i64 0, .string ⟨#[]⟩, .int .i64 0, .string ⟨#[]⟩, .slice none 0 0, .int .i64 0, .int .i64 0] 49)).alloc (.cells #[.int .i64 0, .int .i64 0, .int .i64 0] 36)).heap.size ≤ w2.heap.size) := ⟨hi.hB.1, by simp, hex.size⟩
  clear hex hp hi HNP HS0 exz
  simp only []
  generalize ((w.alloc (.cells #[.bool false, .int .i64 0, .string ⟨#[]⟩, .int .i64 0, .string ⟨#[]⟩, .slice none 0 0, .int .i64 0, .int .i64 0, .int .i64 0, .int .i64 0, .string ⟨#[]⟩, .int .i64 0, .string ⟨#[]⟩, .slice none 0 0, .int .i64 0, .int .i64 0] 49)).alloc (.cells #[.int .i64 0, .int .i64 0, .int .i64 0] 36)) = w1 at *
  have HR : Hid (∃ r2 r3, w.heap.size = r2 ∧ w.heap.size + 1 = r3) := ⟨_, _, rfl, rfl⟩
  obtain ⟨r2, r3, hr2, hr3⟩ := HR.out
  have HR2 : Hid (r2 = w.heap.size ∧ r3 = w.heap.size + 1) := ⟨hr2.symm, hr3.symm⟩
  rw [hr3, hr2] at HZ
  rw [hr3, hr2]
  clear hr2 hr3 HR
  go_upto_region 3 with fail
  generalize w2.alloc (.cells #[.bool false, .int .i64 0, .string ⟨#[]⟩, .int .i64 0, .string ⟨#[]⟩, .slice none 0 0, .int .i64 0, .int .i64 0, .int .i64 0, .int .i64 0, .string ⟨#[]⟩, .int .i64 0, .string ⟨#[]⟩, .slice none 0 0, .int .i64 0, .int .i64 0] 49) = w3 at *
  generalize w2.heap.size = r at *
  go_wp2_with fail
  refine (HC1.out p w3 HI.out).mono ?_
  rintro e9 w4 ⟨rfl, hex, hi⟩
  have HI4 := hide hi
  have HX4 : Hid (Ex (fun _ => False) w1 w4) := HX.out.trans2 hex (fun k z => .inr (by have := HP.out; omega))
  have HK4 := hide (HK.out.keep hex (by have := HP5.out; omega))
  have HS4 : Hid (w3.heap.size ≤ w4.heap.size) := hex.size
  clear hex hi HI HX HK HC1
  simp only []
  go_upto_region 10 with fail
  go_wp2_with fail
  refine (HC3.out p w4 HI4.out).mono ?_
  rintro e9 w5 ⟨rfl, hex, hi⟩
  have HI5 := hide hi
  have HX5 : Hid (Ex (fun _ => False) w1 w5) := HX4.out.trans2 hex (fun k z => .inr (by have := HP.out; omega))
  have HK5 := hide (HK4.out.keep hex (by have := HP5.out; omega))
  have HSS : Hid (w3.heap.size ≤ w5.heap.size) := Nat.le_trans HS4.out hex.size
  clear hex hi HI4 HX4 HK4 HC3
  simp only []
  go_upto_region 11 with fail
  go_wp2_with fail
  refine (HCE1.out p w5 HI5.out).mono ?_
  rintro e9 w6c ⟨f1, rfl, hex, hi, hti⟩
  have HXc : Hid (Ex (fun _ => False) w1 w6c) := HX5.out.trans2 hex (fun k z => .inr (by have := HP.out; omega))
  have HKc := hide (HK5.out.keep hex (by have := HP5.out; omega))
  have y1 := HKc.out.c1
  have yf1 := HKc.out.fz 1
  have y2 := HKc.out.c2
  have yf2 := HKc.out.fz 2
  have y3 := HKc.out.c3
  have yf3 := HKc.out.fz 3
  have y4 := HKc.out.c4
  have yf4 := HKc.out.fz 4
  have y5 := HKc.out.c5
  have yf5 := HKc.out.fz 5
  have y6 := HKc.out.c6
  have yf6 := HKc.out.fz 6
  have y7 := HKc.out.c7
  have yf7 := HKc.out.fz 7
  have exs := ex_setp w6c r f1
  have HI6 : Hid (InS (p + 1) p a cp s (setp w6c r f1) st6) := hi.ex exs (fun k z => by have := HP5.out; omega)
  have HX6 : Hid (Ex (fun _ => False) w1 (setp w6c r f1)) := HXc.out.trans2 exs (fun k z => .inr (by have := HP5.out; omega))
  have HK6 := hide (HKc.out.putp f1)
  have HT : Hid (isAt st6 → ET (setp w6c r f1) (fun k => k < w3.heap.size) e1 f1) := fun z => ((hti z).keep (Ex.refl (fun _ => False) _) (fun _ z => z.elim) (fun k z => .inl (by have := HSS.out; omega))).keep exs (fun k z => .inl (by have := HP5.out; omega)) (fun _ z => .inl z)
  have HSN : Hid (w3.heap.size ≤ (setp w6c r f1).heap.size) := Nat.le_trans HSS.out (Nat.le_trans hex.size exs.size)
  clear hex hi hti HI5 HX5 HK5 HXc HKc exs HCE1
  unfold xV
  simp only []
  unfold setp at HI6 HX6 HK6 HT HSN
  unfold x00 nb at y1 y2 y3 y4 y5 y6 y7
  dsimp only at y1 y2 y3 y4 y5 y6 y7
  go_upto_region 12 with fail
  generalize (((((((w6c).setCell ⟨r, 1, none⟩ (.int .i64 f1.k)).setCell ⟨r, 2, none⟩ (.string f1.x)).setCell ⟨r, 3, none⟩ (.int .i64 f1.n)).setCell ⟨r, 4, none⟩ (.string f1.m)).setCell ⟨r, 5, none⟩ (.slice f1.q f1.ql f1.qc)).setCell ⟨r, 6, none⟩ (.int .i64 f1.li)).setCell ⟨r, 7, none⟩ (.int .i64 f1.co) = w6 at *
  clear y1 yf1 y2 yf2 y3 yf3 y4 yf4 y5 yf5 y6 yf6 y7 yf7
  go_upto_region 12 with fail
  go_wp2_with fail
  refine (HC7.out p w6 HI6.out).mono ?_
  rintro e9 w7 ⟨rfl, hex, hi⟩
  have HI7 := hide hi
  have HX7 : Hid (Ex (fun _ => False) w1 w7) := HX6.out.trans2 hex (fun k z => .inr (by have := HP.out; omega))
  have HK7 := hide (HK6.out.keep hex (by have := HP5.out; omega))
  have HT7 : Hid (isAt st6 → ET w7 (fun k => k < w3.heap.size) e1 f1) := fun z => (HT.out z).keep hex (fun k z => .inl (by have := HP5.out; omega)) (fun _ z => .inl z)
  clear hex hi HI6 HX6 HK6 HC7
  simp only []
  go_upto_region 13 with fail
  go_wp2_with fail
  refine (HC8.out p w7 HI7.out).mono ?_
  rintro e9 w8 ⟨rfl, hex, hi⟩
  have HI8 := hide hi
  have HX8 : Hid (Ex (fun _ => False) w1 w8) := HX7.out.trans2 hex (fun k z => .inr (by have := HP.out; omega))
  have HK8 := hide (HK7.out.keep hex (by have := HP5.out; omega))
  have HT8 : Hid (isAt st8 → ET w8 (fun k => k < w3.heap.size) e1 f1) := fun z => (HT7.out (HA8.out z)).keep hex (fun k z => .inl (by have := HP5.out; omega)) (fun _ z => .inl z)
  clear hex hi HI7 HX7 HK7 HC8
  unfold tkV
  simp only []
  clear HT HT7 HSS HSN HS4
  obtain ⟨fe, fl, fc, g1, g2, g3, hfv, hfe⟩ := HI8.out.flt
  have HFV := hide hfv
  have HFE := hide hfe
  obtain ⟨hq2, ⟨b0, b1, b2⟩, fz3⟩ := HZ.out w8 HX8.out
  have a0 := hq2.c0
  have aF0 := hq2.fz 0
  have k0 := HK8.out.c0
  have a1 := hq2.c1
  have aF1 := hq2.fz 1
  have k1 := HK8.out.c1
  have a2 := hq2.c2
  have aF2 := hq2.fz 2
  have k2 := HK8.out.c2
  have a3 := hq2.c3
  have aF3 := hq2.fz 3
  have k3 := HK8.out.c3
  have a4 := hq2.c4
  have aF4 := hq2.fz 4
  have k4 := HK8.out.c4
  have a5 := hq2.c5
  have aF5 := hq2.fz 5
  have k5 := HK8.out.c5
  have a6 := hq2.c6
  have aF6 := hq2.fz 6
  have k6 := HK8.out.c6
  have a7 := hq2.c7
  have aF7 := hq2.fz 7
  have k7 := HK8.out.c7
  have a8 := hq2.c8
  have aF8 := hq2.fz 8
  have k8 := HK8.out.c8
  have a9 := hq2.c9
  have aF9 := hq2.fz 9
  have k9 := HK8.out.c9
  have a10 := hq2.c10
  have aF10 := hq2.fz 10
  have k10 := HK8.out.c10
  have a11 := hq2.c11
  have aF11 := hq2.fz 11
  have k11 := HK8.out.c11
  have a12 := hq2.c12
  have aF12 := hq2.fz 12
  have k12 := HK8.out.c12
  have a13 := hq2.c13
  have aF13 := hq2.fz 13
  have k13 := HK8.out.c13
  have a14 := hq2.c14
  have aF14 := hq2.fz 14
  have k14 := HK8.out.c14
  have a15 := hq2.c15
  have aF15 := hq2.fz 15
  have k15 := HK8.out.c15
  unfold x00 nb at a1 a2 a3 a4 a5 a6 a7 a9 a10 a11 a12 a13 a14 a15
  dsimp only at a1 a2 a3 a4 a5 a6 a7 a9 a10 a11 a12 a13 a14 a15
  have bF0 := fz3 0
  have bF1 := fz3 1
  have bF2 := fz3 2
  have hne : r2 ≠ r3 ∧ r2 ≠ r ∧ r3 ≠ r ∧ r2 ≠ p ∧ r3 ≠ p := by have := HP.out; have := HP5.out; have := HR2.out; omega
  obtain ⟨n1, n2, n3, n4, n5⟩ := hne
  have HFIN : Hid (∀ wz, Ex (fun k => k = r2 ∨ k = r3) w8 wz → QPost w R (.returned (.tuple #[prV false f1 0 x00, fltV st8])) wz) := fun wz ex => by
    rw [← HRR.out]
    have hr := HR2.out
    have hp := HP.out
    have hp5 := HP5.out
    have hb : ∀ k, k = r2 ∨ k = r3 → k < w3.heap.size ∨ w8.heap.size ≤ k := fun k z => .inl (by omega)
    have hD : ∀ k, k < w.heap.size → k < w3.heap.size ∨ w8.heap.size ≤ k := fun k z => .inl (by omega)
    exact ⟨false, 0, f1, x00, rfl, (HE1.out.trans HX8.out).trans2 ex (fun k z => .inr (by omega)), HFE.out, fun z => ⟨⟨rfl, rfl⟩, ⟨((HT8.out z).keep ex hb hD), rfl⟩⟩⟩
  have exz : Ex (fun k => k = r2 ∨ k = r3) w8 ((((((((((((((((((((w8).setCell ⟨r2, 0, none⟩ (.bool false)).setCell ⟨r2, 1, none⟩ (.int .i64 f1.k)).setCell ⟨r2, 2, none⟩ (.string f1.x)).setCell ⟨r2, 3, none⟩ (.int .i64 f1.n)).setCell ⟨r2, 4, none⟩ (.string f1.m)).setCell ⟨r2, 5, none⟩ (.slice f1.q f1.ql f1.qc)).setCell ⟨r2, 6, none⟩ (.int .i64 f1.li)).setCell ⟨r2, 7, none⟩ (.int .i64 f1.co)).setCell ⟨r2, 8, none⟩ (.int .i64 0)).setCell ⟨r2, 9, none⟩ (.int .i64 0)).setCell ⟨r2, 10, none⟩ (.string ⟨#[]⟩)).setCell ⟨r2, 11, none⟩ (.int .i64 0)).setCell ⟨r2, 12, none⟩ (.string ⟨#[]⟩)).setCell ⟨r2, 13, none⟩ (.slice none 0 0)).setCell ⟨r2, 14, none⟩ (.int .i64 0)).setCell ⟨r2, 15, none⟩ (.int .i64 0)).setCell ⟨r3, 0, none⟩ (.int .i64 fe)).setCell ⟨r3, 1, none⟩ (.int .i64 fl)).setCell ⟨r3, 2, none⟩ (.int .i64 fc)).drew := ((((((((((((((((((((Ex.refl (fun k => k = r2 ∨ k = r3) w8).set (p := r2) (.inl rfl) _).set (p := r2) (.inl rfl) _).set (p := r2) (.inl rfl) _).set (p := r2) (.inl rfl) _).set (p := r2) (.inl rfl) _).set (p := r2) (.inl rfl) _).set (p := r2) (.inl rfl) _).set (p := r2) (.inl rfl) _).set (p := r2) (.inl rfl) _).set (p := r2) (.inl rfl) _).set (p := r2) (.inl rfl) _).set (p := r2) (.inl rfl) _).set (p := r2) (.inl rfl) _).set (p := r2) (.inl rfl) _).set (p := r2) (.inl rfl) _).set (p := r2) (.inl rfl) _).set (p := r3) (.inr rfl) _).set (p := r3) (.inr rfl) _).set (p := r3) (.inr rfl) _).drew
  have HLAST := hide (HFIN.out _ exz)
  rw [HFV.out] at HLAST
  unfold prV at HLAST
  unfold x00 nb at HLAST
  dsimp only at HLAST
  unfold x00 nb at k9 k10 k11 k12 k13 k14 k15
  dsimp only at k9 k10 k11 k12 k13 k14 k15
  clear exz HFIN hq2 fz3 hfv hfe HI8 HX8 HK8 HT8 
  go_upto_region 14 with fail
  go_region
  go_wp2
  exact bodyPost_ret (by simp [results, Try.results19, go_sem, a0, a1, a2, a3, a4, a5, a6, a7, a8, a9, a10, a11, a12, a13, a14, a15, b0, b1, b2, n1, Ne.symm n1]) rfl HLAST.out
end
end Go.Proofs.Qxb6500774a
