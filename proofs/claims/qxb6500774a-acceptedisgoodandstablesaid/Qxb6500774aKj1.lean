import Derived.Test.Qxb6500774aKj0
namespace Go.Proofs.Qxb6500774a
open Go.RowKit
set_option linter.unusedVariables false
set_option linter.unusedSimpArgs false

section
variable {B p : Nat} {a : Option Addr} {cp : Nat} {s : List Int}
set_option linter.unusedSimpArgs false in
set_option linter.unusedVariables false in
set_option maxRecDepth 100000 in
set_option maxHeartbeats 32000000 in
theorem pl_leave (w wr : World) (r0 r1 N m : Nat) (d : Int) (RR : E × PSt) (e : E) (st : PSt) (f : XP) (HM : Hid (m < N)) (HPJ : Hid (pj s m (.placL e) st = some RR)) (HDA : Hid (DA d st)) (HPX : Hid (PX B p a cp s w wr r0 r1 st f)) (HET : Hid (isAt st → ET wr (DX w r0 r1) e f)) (HLM : Hid (lm (PLR B p a cp s w r0 r1 N d RR wr) = m)) (HEE : Hid (EX1 B p a cp s N)) (HD0 : Hid (0 ≤ d ∧ d ≤ 64)) (hdot : atS s bDOT st = false) (hbra : atS s bBRA st = false) (v4 v5 v6 v7 v8 v9 v10 v11 v12 v13 v14 v15 v16 v17 v18 u19 u20 u21 u22 u23 u24 u25 u26 u27 u28 u29 u30 u31 u32 u33 u34 u35 u36 u37 u38 u39 u40 u41 u42 u43 u44 u45 u46 u47 u48 u49 u50 u51 u52 u53 u54 u55 : Value) :
    Code.wp Try.prog ob93 (Exit.then (fun a' w' => (∃ (u19 u20 u21 u22 u23 u24 u25 u26 u27 u28 u29 u30 u31 u32 u33 u34 u35 u36 u37 u38 u39 u40 u41 u42 u43 u44 u45 u46 u47 u48 u49 u50 u51 u52 u53 u54 u55 : Value), (∃ m, PLR B p a cp s w r0 r1 N d RR w' m) ∧ a' = ⟨#[Value.pointer (some ⟨p, 0, none⟩), undef, Value.pointer (some ⟨r0, 0, none⟩), Value.pointer (some ⟨r1, 0, none⟩), v4, v5, v6, v7, v8, v9, v10, v11, v12, v13, v14, v15, v16, v17, v18, u19, u20, u21, u22, u23, u24, u25, u26, u27, u28, u29, u30, u31, u32, u33, u34, u35, u36, u37, u38, u39, u40, u41, u42, u43, u44, u45, u46, u47, u48, u49, u50, u51, u52, u53, u54, u55], []⟩) ∧ lm (PLR B p a cp s w r0 r1 N d RR w') < lm (PLR B p a cp s w r0 r1 N d RR wr)) (Exit.inBlock 0 (bodyPost Try.prog Try.f93 (XPost B p a cp s w RR)))) ⟨#[Value.pointer (some ⟨p, 0, none⟩), undef, Value.pointer (some ⟨r0, 0, none⟩), Value.pointer (some ⟨r1, 0, none⟩), v4, v5, v6, v7, v8, v9, v10, v11, v12, v13, v14, v15, v16, v17, v18, u19, u20, u21, u22, u23, u24, u25, u26, u27, u28, u29, u30, u31, u32, u33, u34, u35, u36, u37, u38, u39, u40, u41, u42, u43, u44, u45, u46, u47, u48, u49, u50, u51, u52, u53, u54, u55], []⟩ wr := by
  conv => arg 2; whnf
  have HAC := hide (acceptK_any wr HPX.out.ins bDOT)
  rw [show acceptS s bDOT st = (false, st) by unfold acceptS; rw [if_neg (by rw [hdot]; decide)]] at HAC
  unfold bDOT at HAC
  have HRR : Hid ((e, st) = RR) := by
    have h := HPJ.out
    cases m with
    | zero => unfold pj at h; cases h
    | succ m =>
      unfold pj at h
      rw [if_neg (by unfold acceptS; rw [if_neg (by rw [hdot]; decide)]; simp), if_neg (by rw [hbra]; decide)] at h
      injection h
  clear HPJ
  go_upto_if 20 with (go_at_call 43; refine (HAC.out).mono ?_; rintro e w5 ⟨rfl, hex, hi⟩; have HEX := hide hex; have HI := hide hi; clear hex hi; simp only [])
  have hpw : p < w.heap.size := by have := HPX.out.hb; omega
  have HX5 := hide (HPX.out.call HEX.out HI.out)
  have HT5 : Hid (isAt st → ET w5 (DX w r0 r1) e f) := fun z => (HET.out z).dx HEX.out hpw
  clear HPX HET HEX HI HAC
  have HAT := hide (atK_any w5 HX5.out.ins bBRA)
  rw [hbra] at HAT
  unfold bBRA at HAT
  have R0 := HX5.out.tr.c0
  have R1 := HX5.out.tr.c1
  have R2 := HX5.out.tr.c2
  have R3 := HX5.out.tr.c3
  have R4 := HX5.out.tr.c4
  have R5 := HX5.out.tr.c5
  have R6 := HX5.out.tr.c6
  have RF0 := HX5.out.tr.fz 0
  have RF1 := HX5.out.tr.fz 1
  have RF2 := HX5.out.tr.fz 2
  have RF3 := HX5.out.tr.fz 3
  have RF4 := HX5.out.tr.fz 4
  have RF5 := HX5.out.tr.fz 5
  have RF6 := HX5.out.tr.fz 6
  have S0 := HX5.out.te.c0
  have S1 := HX5.out.te.c1
  have S2 := HX5.out.te.c2
  have S3 := HX5.out.te.c3
  have S4 := HX5.out.te.c4
  have S5 := HX5.out.te.c5
  have S6 := HX5.out.te.c6
  unfold x00 nb at R0 R1 R2 R3 R4 R5 R6
  dsimp only at R0 R1 R2 R3 R4 R5 R6
  have HF : Hid (XPost B p a cp s w RR (.returned (xV f)) (set7 w5 r0 f)) := by
    rw [← HRR.out]
    exact HX5.out.fin HT5.out
  unfold set7 at HF
  clear HX5 HT5
  go_wp2_with (go_at_call 72; refine (HAT.out).mono ?_; rintro e wq ⟨rfl, rfl⟩; simp only [])
  exact bodyPost_ret (v := xV f) (by simp [results, Try.results93, go_sem, xV, R0, R1, R2, R3, R4, R5, R6]) rfl HF.out
end
end Go.Proofs.Qxb6500774a
