import Derived.Test.Qxb6500774aKv1
namespace Go.Proofs.Qxb6500774a
open Go.RowKit
set_option linter.unusedVariables false
set_option linter.unusedSimpArgs false

section
variable {B p : Nat} {a : Option Addr} {cp : Nat} {s : List Int}
set_option linter.unusedSimpArgs false in
set_option linter.unusedVariables false in
set_option maxRecDepth 100000 in
set_option maxHeartbeats 32000000 in
theorem newParser_short (w : World) (hsrc : SrcAt w a s) (ha : ∀ (i : Nat) c, s[i]? = some c → ∀ g off, a = some ⟨g, off, none⟩ → g < w.heap.size) (hl : s.length ≤ 1048576) (hl2 : s.length ≤ 4611686018427387904) :
    Calls Try.prog 33 #[.slice a s.length cp] w fun e w' => ∃ p, e = .returned (.pointer (some ⟨p, 0, none⟩)) ∧ Ex (fun _ => False) w w' ∧ w.heap.size ≤ p ∧ InS (p + 1) p a cp s w' (.at 0 0) := by
  have HSRC := hide hsrc
  have HL := hide hl
  have d1 : decide ((1048576 : Int) < (s.length : Int)) = false := by simp; omega
  clear hsrc
  go_enter Try.func33, Try.ntmps33
  go_upto_region 2 with fail
  have nc := fun j u h => new_cells w [.slice a s.length cp, .int .i64 0, .int .i64 1, .int .i64 0, .int .i64 0, .string ⟨#[]⟩, .int .i64 0, .int .i64 0, .int .i64 0, .int .i64 0, .int .i64 0, .int .i64 0, .int .i64 0, .int .i64 0] 88 j u h
  have hp1 : PK (w.heap.size + 1) w.heap.size a cp s (w.alloc (.cells #[.slice a s.length cp, .int .i64 0, .int .i64 1, .int .i64 0, .int .i64 0, .string ⟨#[]⟩, .int .i64 0, .int .i64 0, .int .i64 0, .int .i64 0, .int .i64 0, .int .i64 0, .int .i64 0, .int .i64 0] 88)) ⟨0, 1, 0⟩ ⟨0, ⟨#[]⟩, 0, 0, 0, 0⟩ 0 0 0 0 :=
    ⟨⟨nc 0 _ rfl, nc 1 _ rfl, nc 2 _ rfl, nc 3 _ rfl, by simp [go_sem], by simp [go_sem], by simp [go_sem], fun i c hc => by
        obtain ⟨b, off, e, hx⟩ := HSRC.out i c hc
        exact ⟨b, off, e, cellKeep (be1 w _) hx⟩, fun i c hc g off e => by have := ha i c hc g off e; omega, fun _ _ => rfl, fun j => by simp [go_sem]⟩, (by constructor <;> simp),
      nc 4 _ rfl, nc 5 _ rfl, nc 6 _ rfl, nc 7 _ rfl, nc 8 _ rfl, nc 9 _ rfl, nc 10 _ rfl, nc 11 _ rfl, nc 12 _ rfl, nc 13 _ rfl, fun j => by simp [go_sem], Nat.lt_succ_self _, fun i c hc b off e => by have := ha i c hc b off e; omega, by simp⟩
  have HE1 : Hid (Ex (fun _ => False) w (w.alloc (.cells #[.slice a s.length cp, .int .i64 0, .int .i64 1, .int .i64 0, .int .i64 0, .string ⟨#[]⟩, .int .i64 0, .int .i64 0, .int .i64 0, .int .i64 0, .int .i64 0, .int .i64 0, .int .i64 0, .int .i64 0] 88))) := (Ex.refl _ _).alloc _
  clear nc
  obtain ⟨p, hpe⟩ : ∃ p, w.heap.size = p := ⟨_, rfl⟩
  have HWP : Hid (w.heap.size ≤ p) := by rw [hpe]; exact Nat.le_refl _
  generalize w.alloc (.cells #[.slice a s.length cp, .int .i64 0, .int .i64 1, .int .i64 0, .int .i64 0, .string ⟨#[]⟩, .int .i64 0, .int .i64 0, .int .i64 0, .int .i64 0, .int .i64 0, .int .i64 0, .int .i64 0, .int .i64 0] 88) = w1 at *
  rw [hpe] at hp1 ⊢
  clear hpe HSRC ha
  have HNX := hide (nextK_any (R := fun j => w1.cell? ⟨p, j, none⟩) w1 p a cp s ⟨0, 1, 0⟩ hp1.lx hp1.ho hl)
  have HTK : Hid (tks s 0 = nextP s ⟨0, 1, 0⟩) := by show _ = _; unfold tks; rw [if_neg (by have := HL.out; omega)]
  generalize hnx : nextP s ⟨0, 1, 0⟩ = nx at *
  obtain ⟨t, q⟩ := nx
  have H1 := hide hp1
  clear hp1 hnx hl hl2
  go_wp2_with fail
  refine HNX.out.mono ?_
  rintro e w3 ⟨rfl, hex, hlx, hok⟩
  have H3 := hide (H1.out.of_lx hex hlx hok)
  have HE3 := hide (HE1.out.trans2 hex (fun j e => .inr (by have := HWP.out; omega)))
  clear H1 hex hlx hok HNX HE1
  unfold tkV
  simp only []
  have c4 := H3.out.c4
  have f4 := H3.out.fr 4
  have c5 := H3.out.c5
  have f5 := H3.out.fr 5
  have c6 := H3.out.c6
  have f6 := H3.out.fr 6
  have c7 := H3.out.c7
  have f7 := H3.out.fr 7
  have c8 := H3.out.c8
  have f8 := H3.out.fr 8
  have c9 := H3.out.c9
  have f9 := H3.out.fr 9
  have HF := hide (H3.out.tok t)
  have HEF := hide ((((((HE3.out.setNew (p := p) (j := 4) HWP.out (.int .i64 (t).k)).setNew (p := p) (j := 5) HWP.out (.string (t).x)).setNew (p := p) (j := 6) HWP.out (.int .i64 (t).v)).setNew (p := p) (j := 7) HWP.out (.int .i64 (t).e)).setNew (p := p) (j := 8) HWP.out (.int .i64 (t).l)).setNew (p := p) (j := 9) HWP.out (.int .i64 (t).c))
  clear H3 HE3
  go_wp2
  refine bodyPost_ret (v := .pointer (some ⟨p, 0, none⟩)) (by simp [results, Try.results33]) rfl ⟨p, rfl, HEF.out, HWP.out, ?_, fun z => by have := HL.out; omega⟩
  rw [HTK.out]
  exact HF.out
set_option linter.unusedSimpArgs false in
set_option linter.unusedVariables false in
set_option maxRecDepth 100000 in
set_option maxHeartbeats 32000000 in
theorem newParser_long (w : World) (hsrc : SrcAt w a s) (ha : ∀ (i : Nat) c, s[i]? = some c → ∀ g off, a = some ⟨g, off, none⟩ → g < w.heap.size) (hl : 1048576 < s.length) (hl2 : s.length ≤ 4611686018427387904) :
    Calls Try.prog 33 #[.slice a s.length cp] w fun e w' => ∃ p, e = .returned (.pointer (some ⟨p, 0, none⟩)) ∧ Ex (fun _ => False) w w' ∧ w.heap.size ≤ p ∧ InS (p + 1) p a cp s w' (.at 0 0) := by
  have HSRC := hide hsrc
  have HL := hide hl
  have d1 : decide ((1048576 : Int) < (s.length : Int)) = true := by simp; omega
  clear hsrc
  go_enter Try.func33, Try.ntmps33
  go_upto_region 2 with fail
  have nc := fun j u h => new_cells w [.slice a s.length cp, .int .i64 0, .int .i64 1, .int .i64 0, .int .i64 0, .string ⟨#[]⟩, .int .i64 0, .int .i64 0, .int .i64 0, .int .i64 0, .int .i64 0, .int .i64 0, .int .i64 0, .int .i64 0] 88 j u h
  have hp1 : PK (w.heap.size + 1) w.heap.size a cp s (w.alloc (.cells #[.slice a s.length cp, .int .i64 0, .int .i64 1, .int .i64 0, .int .i64 0, .string ⟨#[]⟩, .int .i64 0, .int .i64 0, .int .i64 0, .int .i64 0, .int .i64 0, .int .i64 0, .int .i64 0, .int .i64 0] 88)) ⟨0, 1, 0⟩ ⟨0, ⟨#[]⟩, 0, 0, 0, 0⟩ 0 0 0 0 :=
    ⟨⟨nc 0 _ rfl, nc 1 _ rfl, nc 2 _ rfl, nc 3 _ rfl, by simp [go_sem], by simp [go_sem], by simp [go_sem], fun i c hc => by
        obtain ⟨b, off, e, hx⟩ := HSRC.out i c hc
        exact ⟨b, off, e, cellKeep (be1 w _) hx⟩, fun i c hc g off e => by have := ha i c hc g off e; omega, fun _ _ => rfl, fun j => by simp [go_sem]⟩, (by constructor <;> simp),
      nc 4 _ rfl, nc 5 _ rfl, nc 6 _ rfl, nc 7 _ rfl, nc 8 _ rfl, nc 9 _ rfl, nc 10 _ rfl, nc 11 _ rfl, nc 12 _ rfl, nc 13 _ rfl, fun j => by simp [go_sem], Nat.lt_succ_self _, fun i c hc b off e => by have := ha i c hc b off e; omega, by simp⟩
  have HE1 : Hid (Ex (fun _ => False) w (w.alloc (.cells #[.slice a s.length cp, .int .i64 0, .int .i64 1, .int .i64 0, .int .i64 0, .string ⟨#[]⟩, .int .i64 0, .int .i64 0, .int .i64 0, .int .i64 0, .int .i64 0, .int .i64 0, .int .i64 0, .int .i64 0] 88))) := (Ex.refl _ _).alloc _
  clear nc
  obtain ⟨p, hpe⟩ : ∃ p, w.heap.size = p := ⟨_, rfl⟩
  have HWP : Hid (w.heap.size ≤ p) := by rw [hpe]; exact Nat.le_refl _
  generalize w.alloc (.cells #[.slice a s.length cp, .int .i64 0, .int .i64 1, .int .i64 0, .int .i64 0, .string ⟨#[]⟩, .int .i64 0, .int .i64 0, .int .i64 0, .int .i64 0, .int .i64 0, .int .i64 0, .int .i64 0, .int .i64 0] 88) = w1 at *
  rw [hpe] at hp1 ⊢
  clear hpe HSRC ha
  have H3 := hide hp1
  have HE3 := HE1
  clear hp1 HE1 hl hl2
  have c4 := H3.out.c4
  have f4 := H3.out.fr 4
  have c5 := H3.out.c5
  have f5 := H3.out.fr 5
  have c6 := H3.out.c6
  have f6 := H3.out.fr 6
  have c7 := H3.out.c7
  have f7 := H3.out.fr 7
  have c8 := H3.out.c8
  have f8 := H3.out.fr 8
  have c9 := H3.out.c9
  have f9 := H3.out.fr 9
  have HF := hide (H3.out.tok (⟨1, ⟨#[]⟩, 0, 1, 1, 1⟩ : TK))
  have HEF := hide ((((((HE3.out.setNew (p := p) (j := 4) HWP.out (.int .i64 ((⟨1, ⟨#[]⟩, 0, 1, 1, 1⟩ : TK)).k)).setNew (p := p) (j := 5) HWP.out (.string ((⟨1, ⟨#[]⟩, 0, 1, 1, 1⟩ : TK)).x)).setNew (p := p) (j := 6) HWP.out (.int .i64 ((⟨1, ⟨#[]⟩, 0, 1, 1, 1⟩ : TK)).v)).setNew (p := p) (j := 7) HWP.out (.int .i64 ((⟨1, ⟨#[]⟩, 0, 1, 1, 1⟩ : TK)).e)).setNew (p := p) (j := 8) HWP.out (.int .i64 ((⟨1, ⟨#[]⟩, 0, 1, 1, 1⟩ : TK)).l)).setNew (p := p) (j := 9) HWP.out (.int .i64 ((⟨1, ⟨#[]⟩, 0, 1, 1, 1⟩ : TK)).c))
  dsimp only at HF HEF
  have HTK : Hid (tks s 0 = (⟨1, ⟨#[]⟩, 0, 1, 1, 1⟩, ⟨0, 1, 0⟩)) := by show _ = _; unfold tks; rw [if_pos HL.out]
  clear H3 HE3
  go_wp2
  refine bodyPost_ret (v := .pointer (some ⟨p, 0, none⟩)) (by simp [results, Try.results33]) rfl ⟨p, rfl, HEF.out, HWP.out, ?_, fun _ => rfl⟩
  rw [HTK.out]
  exact HF.out
theorem newParserK (w : World) (hsrc : SrcAt w a s) (ha : ∀ (i : Nat) c, s[i]? = some c → ∀ g off, a = some ⟨g, off, none⟩ → g < w.heap.size) (hl2 : s.length ≤ 4611686018427387904) :
    Calls Try.prog 33 #[.slice a s.length cp] w fun e w' => ∃ p, e = .returned (.pointer (some ⟨p, 0, none⟩)) ∧ Ex (fun _ => False) w w' ∧ w.heap.size ≤ p ∧ InS (p + 1) p a cp s w' (.at 0 0) := by
  by_cases hl : s.length ≤ 1048576
  · exact newParser_short w hsrc ha hl hl2
  · exact newParser_long w hsrc ha (by omega) hl2
end
end Go.Proofs.Qxb6500774a
