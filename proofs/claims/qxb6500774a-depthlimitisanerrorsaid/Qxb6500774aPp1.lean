import Derived.Test.Qxb6500774aGr9
namespace Go.Proofs.Qxb6500774a
open Go.RowKit

section
variable {B p : Nat} {a : Option Addr} {cp : Nat} {s : List Int}
/-- parser.stmts on the law's statements -/
theorem stmts_all : ∀ (b : Sm), b.Ok → StmtsOk B p a cp s b
  | .asg _ _ _ _, hok => stmts_one (fun _ _ _ _ _ _ _ hq hsb hd hu hat => simple_asg hq hsb hok.1 hok.2.1 hok.2.2.1 hok.2.2.2 hd hu hat) hok
  | .ifs _ _ _ b _ _, hok => stmts_one (fun _ _ _ _ _ _ _ hq hsb hd _ hat => if_ok (stmts_all b hok.2.2.2.2.1) hok hq hsb hd hat) hok
  | .fors _ _ _ _ _ _ _ b _ _, hok => stmts_one (fun _ _ _ _ _ _ _ hq hsb hd _ hat => for_ok (stmts_all b hok.2.2.2.2.2.2.2.2.1) hok hq hsb hd hat) hok
/-- no VAR block -/
def NoVar (t : Tk) : Prop := isM t ⟨#[86, 65, 82]⟩ = false ∧ isM t ⟨#[86, 65, 82, 95, 73, 78, 80, 85, 84]⟩ = false ∧ isM t ⟨#[86, 65, 82, 95, 79, 85, 84, 80, 85, 84]⟩ = false
theorem noVar_of {t : Tk} {x : ByteArray} (h : isM t x = true) (h1 : (x.data.toList == [86, 65, 82]) = false) (h2 : (x.data.toList == [86, 65, 82, 95, 73, 78, 80, 85, 84]) = false) (h3 : (x.data.toList == [86, 65, 82, 95, 79, 85, 84, 80, 85, 84]) = false) : NoVar t := by
  refine ⟨isM_ne h ?_, isM_ne h ?_, isM_ne h ?_⟩
  · rw [ByteArray.toList_eq, ByteArray.toList_eq]; exact h1
  · rw [ByteArray.toList_eq, ByteArray.toList_eq]; exact h2
  · rw [ByteArray.toList_eq, ByteArray.toList_eq]; exact h3
theorem smT_first (b : Sm) (hok : b.Ok) (K : List Tk) : ∃ y Y, smT b ++ K = y :: Y ∧ NoVar y := by
  cases b with
  | asg x ae its n =>
    refine ⟨_, _, rfl, ?_⟩
    have h := hok.1
    exact ⟨by simp [isM, h], by simp [isM, h], by simp [isM, h]⟩
  | ifs i_ x th b sc ei => exact ⟨_, _, rfl, noVar_of hok.1 rfl rfl rfl⟩
  | fors f nm ae z t1 o_ d1 b sc ef => exact ⟨_, _, rfl, noVar_of hok.1 rfl rfl rfl⟩
set_option maxRecDepth 100000 in
set_option maxHeartbeats 4000000 in
/-- parser.blocks where there is none -/
theorem blocks_none {w : World} {d : Int} {t : Tk} {L : List Tk} (hat : At B p a cp s w d (t :: L)) (hn : NoVar t) :
    Calls Try.prog 36 #[.pointer (some ⟨p, 0, none⟩)] w fun e w' => e = .returned (.slice none 0 0) ∧ w = w' := by
  obtain ⟨o, hps, _⟩ := hat
  have HPS := hide hps
  have HN := hide hn
  clear hps hn
  go_enter Try.func36, Try.ntmps36
  go_wp2
  go_loopw [3] (fun s3 wr => s3 = .slice none 0 0 ∧ w = wr) (fun _ _ => 0)
  case atStart => exact ⟨rfl, rfl⟩
  case round =>
    obtain ⟨rfl, rfl⟩ := hrel
    go_wp2_with (go_at_call 72; refine (at_is HPS.out _ _ rfl).mono ?_; rintro e4 wq ⟨rfl, rfl⟩; simp only [HN.out.1, HN.out.2.1, HN.out.2.2])
    go_ret
    exact ⟨rfl, rfl⟩
end
set_option maxRecDepth 100000 in
set_option maxHeartbeats 4000000 in
/-- newParser on a text that is not too long -/
theorem newParser_ok (w : World) (a : Option Addr) (cp : Nat) (s : List Int) (t : Tk) (L : List Tk) (hsrc : SrcAt w a s) (ha : ∀ g off, a = some ⟨g, off, none⟩ → g < w.heap.size) (hl : s.length ≤ 1048576) (hst : Str s 0 (t :: L)) :
    Calls Try.prog 33 #[.slice a s.length cp] w fun e w' => ∃ p, e = .returned (.pointer (some ⟨p, 0, none⟩)) ∧ Ex (fun _ => False) w w' ∧ w.heap.size ≤ p ∧ At (p + 1) p a cp s w' 0 (t :: L) := by
  obtain ⟨o', hnx, ho', hst⟩ := hst
  have HNX := hide hnx
  have HST := hide hst
  have HSRC := hide hsrc
  have d1 : decide ((1048576 : Int) < (s.length : Int)) = false := by simp; omega
  clear hnx hst hsrc
  go_enter Try.func33, Try.ntmps33
  go_wp2_with fail
  have nc := fun j u h => new_cells w [.slice a s.length cp, .int .i64 0, .int .i64 1, .int .i64 0, .int .i64 0, .string ⟨#[]⟩, .int .i64 0, .int .i64 0, .int .i64 0, .int .i64 0, .int .i64 0, .int .i64 0, .int .i64 0, .int .i64 0] 88 j u h
  have hp1 : PS (w.heap.size + 1) w.heap.size a cp s (w.alloc (.cells #[.slice a s.length cp, .int .i64 0, .int .i64 1, .int .i64 0, .int .i64 0, .string ⟨#[]⟩, .int .i64 0, .int .i64 0, .int .i64 0, .int .i64 0, .int .i64 0, .int .i64 0, .int .i64 0, .int .i64 0] 88)) 0 ⟨0, ⟨#[]⟩, 0, 0, 0, 0⟩ 0 0 0 0 :=
    ⟨⟨nc 0 _ rfl, nc 1 _ rfl, nc 2 _ rfl, nc 3 _ rfl, by simp [go_sem], by simp [go_sem], by simp [go_sem], fun i c hc => by
        obtain ⟨b, off, e, hx⟩ := HSRC.out i c hc
        exact ⟨b, off, e, cellKeep (be1 w _) hx⟩, fun g off e => by have := ha g off e; omega, fun _ _ => rfl, fun j => by simp [go_sem]⟩, Nat.zero_le _,
      nc 4 _ rfl, nc 5 _ rfl, nc 6 _ rfl, nc 7 _ rfl, nc 8 _ rfl, nc 9 _ rfl, nc 10 _ rfl, nc 11 _ rfl, nc 12 _ rfl, nc 13 _ rfl, fun j => by simp [go_sem], Nat.lt_succ_self _, fun i c hc b off e => by have := ha b off e; omega, by simp⟩
  have HE1 : Hid (Ex (fun _ => False) w (w.alloc (.cells #[.slice a s.length cp, .int .i64 0, .int .i64 1, .int .i64 0, .int .i64 0, .string ⟨#[]⟩, .int .i64 0, .int .i64 0, .int .i64 0, .int .i64 0, .int .i64 0, .int .i64 0, .int .i64 0, .int .i64 0] 88))) := (Ex.refl _ _).alloc _
  clear nc
  obtain ⟨p, hpe⟩ : ∃ p, w.heap.size = p := ⟨_, rfl⟩
  have HWP : Hid (w.heap.size ≤ p) := by rw [hpe]; exact Nat.le_refl _
  generalize w.alloc (.cells #[.slice a s.length cp, .int .i64 0, .int .i64 1, .int .i64 0, .int .i64 0, .string ⟨#[]⟩, .int .i64 0, .int .i64 0, .int .i64 0, .int .i64 0, .int .i64 0, .int .i64 0, .int .i64 0, .int .i64 0] 88) = w1 at *
  rw [hpe] at hp1 ⊢
  clear hpe HSRC ha
  refine (HNX.out _ _ p a cp hp1.lx).mono ?_
  rintro e w3 ⟨rfl, hex, hlx⟩
  have H3 := hide (hp1.of_lx hex hlx ho')
  have HE3 := hide (HE1.out.trans2 hex (fun j e => .inr (by have := HWP.out; omega)))
  clear hp1 hex hlx HNX HE1
  unfold tokV
  simp only []
  have c4 := H3.out.c4
  have f4 := H3.out.fr 4
  have c5 := H3.out.c5
  have f5 := H3.out.fr 5
  have c6 := H3.out.c6
  have f6 := H3.out.fr 6
  have c7 := H3.out.c7
  have f7 := H3.out.fr 7
  have c8 := H3.out.c8
  have f8 := H3.out.fr 8
  have c9 := H3.out.c9
  have f9 := H3.out.fr 9
  have HF := hide (H3.out.tok t)
  have HEF := hide ((((((HE3.out.setNew (p := p) (j := 4) HWP.out (.int .i64 t.k)).setNew (p := p) (j := 5) HWP.out (.string t.x)).setNew (p := p) (j := 6) HWP.out (.int .i64 t.v)).setNew (p := p) (j := 7) HWP.out (.int .i64 t.e)).setNew (p := p) (j := 8) HWP.out (.int .i64 t.l)).setNew (p := p) (j := 9) HWP.out (.int .i64 t.c))
  go_wp2
  go_ret
  exact ⟨p, rfl, HEF.out, HWP.out, o', HF.out, HST.out⟩
end Go.Proofs.Qxb6500774a
