import Derived.Test.Qxb6500778aNext
namespace Go.Proofs.Qxb6500778a
open Go.RowKit

theorem Is.not {p k : Nat} (h : k < p) : ¬ Is p k := fun (e : k = p) => by omega
set_option maxHeartbeats 4000000 in
theorem advance_any (w : World) (p : Nat) (a : Option Addr) (n c : Nat) (er : Int) (h : PI w p a n c er) :
    Calls Try.prog 29 #[.pointer (some ⟨p, 0, none⟩)] w fun e w' => e = .returned (.tuple #[]) ∧ PI w' p a n c er ∧ Ex (Is p) w w' := by
  obtain ⟨pos, k, tp, s, v, at_, hps, ht, hv, ha⟩ := h
  have HP := hide hps
  clear hps
  go_enter Try.func29, Try.ntmps29
  go_wp2_with fail
  refine (next_any _ p a n c pos k tp s v er at_ HP.out).mono ?_
  rintro e w1 ⟨k', tp', s', v', pos', rfl, ht', hv', hps, hex⟩
  have HP1 := hide hps
  have HE := hide hex
  have c2 := hps.c2
  have c3 := hps.c3
  have c4 := hps.c4
  have c5 := hps.c5
  have fr := hps.fr
  clear hps hex
  go_wp2
  go_end0
  exact ⟨rfl, ⟨pos', k', tp', s', v', at_, (((HP1.out.put2).put3).put4).put5, ht', hv', ha⟩, (((HE.out.set (p := p) rfl _).set (p := p) rfl _).set (p := p) rfl _).set (p := p) rfl _⟩
theorem fail_any (w : World) (p : Nat) (a : Option Addr) (n c : Nat) (er e0 x : Int) (he : e0 ≠ 0) (hx : 0 ≤ x ∧ x ≤ n) (h : PI w p a n c er) :
    Calls Try.prog 33 #[.pointer (some ⟨p, 0, none⟩), .int .i64 e0, .int .i64 x] w fun e w' => e = .returned (.tuple #[]) ∧ (∃ er', er' ≠ 0 ∧ PI w' p a n c er') ∧ Ex (Is p) w w' := by
  obtain ⟨pos, k, tp, s, v, at_, hps, ht, hv, ha⟩ := h
  have HP := hide hps
  have c6 := hps.c6
  have c7 := hps.c7
  have fr := hps.fr
  clear hps
  go_enter Try.func33, Try.ntmps33
  by_cases hz : er = 0
  · subst hz
    go_wp2
    go_end0
    exact ⟨rfl, ⟨e0, he, pos, k, tp, s, v, x, (HP.out.put6).put7, ht, hv, hx⟩, ((Ex.refl (Is p) w).set (p := p) rfl _).set (p := p) rfl _⟩
  · have hzb : (er == 0) = false := by simp [hz]
    go_wp2
    go_end0
    exact ⟨rfl, ⟨er, hz, pos, k, tp, s, v, at_, HP.out, ht, hv, ha⟩, Ex.refl _ _⟩
theorem unexpected_any (w : World) (p : Nat) (a : Option Addr) (n c : Nat) (er : Int) (h : PI w p a n c er) :
    Calls Try.prog 53 #[.pointer (some ⟨p, 0, none⟩)] w fun e w' => e = .returned (.tuple #[]) ∧ (∃ er', er' ≠ 0 ∧ PI w' p a n c er') ∧ Ex (Is p) w w' := by
  have HI := hide h
  obtain ⟨pos, k, tp, s, v, at_, hps, ht, hv, ha⟩ := h
  have c2 := hps.c2
  have c3 := hps.c3
  clear hps hv ha
  go_enter Try.func53, Try.ntmps53
  by_cases hk : k = 7
  · subst hk
    go_wp2_with fail
    refine (fail_any _ p a n c er 1 tp (by decide) ht HI.out).mono ?_
    rintro e w1 ⟨rfl, hr, hex⟩
    have HR := hide hr
    have HE := hide hex
    clear hr hex c2 c3
    go_wp2
    go_end0
    exact ⟨rfl, HR.out, HE.out⟩
  · have hkb : (k == 7) = false := by simp [hk]
    go_wp2_with fail
    refine (fail_any _ p a n c er 2 tp (by decide) ht HI.out).mono ?_
    rintro e w1 ⟨rfl, hr, hex⟩
    have HR := hide hr
    have HE := hide hex
    clear hr hex c2 c3
    go_wp2
    go_end0
    exact ⟨rfl, HR.out, HE.out⟩
theorem isWord_any (w : World) (p : Nat) (a : Option Addr) (n c : Nat) (er : Int) (y : ByteArray) (h : PI w p a n c er) :
    Calls Try.prog 52 #[.pointer (some ⟨p, 0, none⟩), .string y] w (SomeBool w) := by
  obtain ⟨pos, k, tp, s, v, at_, hps, ht, hv, ha⟩ := h
  have c2 := hps.c2
  have c4 := hps.c4
  clear hps hv ha
  go_enter Try.func52, Try.ntmps52
  by_cases hk : k = 1
  · subst hk
    go_wp2
    all_goals
      go_ret
      exact ⟨_, rfl, rfl⟩
  · have hkb : (k == 1) = false := by simp [hk]
    go_wp2
    all_goals
      go_ret
      exact ⟨_, rfl, rfl⟩
/-- What a step of the parser leaves: er' = 0 only where er = 0. -/
def StepPost (w : World) (p : Nat) (a : Option Addr) (n c : Nat) (er : Int) (e : Ending) (w' : World) : Prop :=
  e = .returned (.tuple #[]) ∧ (∃ er', (er' = 0 → er = 0) ∧ PI w' p a n c er') ∧ Ex (Is p) w w'
theorem word_any (w : World) (p : Nat) (a : Option Addr) (n c : Nat) (er : Int) (y : ByteArray) (h : PI w p a n c er) :
    Calls Try.prog 30 #[.pointer (some ⟨p, 0, none⟩), .string y] w (StepPost w p a n c er) := by
  have HI := hide h
  obtain ⟨pos, k, tp, s, v, at_, hps, ht, hv, ha⟩ := h
  have c6 := hps.c6
  clear hps hv ha ht
  go_enter Try.func30, Try.ntmps30
  by_cases hz : er = 0
  · subst hz
    go_wp2_with fail
    refine (isWord_any _ p a n c 0 y HI.out).mono ?_
    rintro e w1 ⟨b, rfl, rfl⟩
    cases b
    · go_wp2_with fail
      refine (unexpected_any _ p a n c 0 HI.out).mono ?_
      rintro e w2 ⟨rfl, hr, hex⟩
      have HR := hide hr
      have HE := hide hex
      clear hr hex c6
      go_wp2
      obtain ⟨er', h1, h2⟩ := HR.out
      exact bodyPost_ret (v := .tuple #[]) (by simp [results, Try.results30, go_sem]) rfl ⟨rfl, ⟨er', fun _ => rfl, h2⟩, HE.out⟩
    · go_wp2_with fail
      refine (advance_any _ p a n c 0 HI.out).mono ?_
      rintro e w2 ⟨rfl, hr, hex⟩
      have HR := hide hr
      have HE := hide hex
      clear hr hex c6
      go_wp2
      go_end0
      exact ⟨rfl, ⟨0, fun _ => rfl, HR.out⟩, HE.out⟩
  · have hzb : (er != 0) = true := by simp [hz]
    go_wp2
    exact bodyPost_ret (v := .tuple #[]) (by simp [results, Try.results30, go_sem]) rfl ⟨rfl, ⟨er, id, HI.out⟩, Ex.refl _ _⟩
theorem punct_any (w : World) (p : Nat) (a : Option Addr) (n c : Nat) (er y : Int) (h : PI w p a n c er) :
    Calls Try.prog 32 #[.pointer (some ⟨p, 0, none⟩), .int .i64 y] w (StepPost w p a n c er) := by
  have HI := hide h
  obtain ⟨pos, k, tp, s, v, at_, hps, ht, hv, ha⟩ := h
  have c6 := hps.c6
  have c2 := hps.c2
  clear hps hv ha ht
  go_enter Try.func32, Try.ntmps32
  by_cases hz : er = 0
  · subst hz
    by_cases hk : k = y
    · have hkb : (k != y) = false := by simp [hk]
      go_wp2_with fail
      refine (advance_any _ p a n c 0 HI.out).mono ?_
      rintro e w2 ⟨rfl, hr, hex⟩
      have HR := hide hr
      have HE := hide hex
      clear hr hex c6 c2
      go_wp2
      go_end0
      exact ⟨rfl, ⟨0, fun _ => rfl, HR.out⟩, HE.out⟩
    · have hkb : (k != y) = true := by simp [hk]
      go_wp2_with fail
      refine (unexpected_any _ p a n c 0 HI.out).mono ?_
      rintro e w2 ⟨rfl, hr, hex⟩
      have HR := hide hr
      have HE := hide hex
      clear hr hex c6 c2
      go_wp2
      obtain ⟨er', h1, h2⟩ := HR.out
      exact bodyPost_ret (v := .tuple #[]) (by simp [results, Try.results32, go_sem]) rfl ⟨rfl, ⟨er', fun _ => rfl, h2⟩, HE.out⟩
  · have hzb : (er != 0) = true := by simp [hz]
    go_wp2
    exact bodyPost_ret (v := .tuple #[]) (by simp [results, Try.results32, go_sem]) rfl ⟨rfl, ⟨er, id, HI.out⟩, Ex.refl _ _⟩
def BoolPost (w : World) (p : Nat) (a : Option Addr) (n c : Nat) (er : Int) (e : Ending) (w' : World) : Prop :=
  (∃ b : Bool, e = .returned (.bool b)) ∧ (∃ er', (er' = 0 → er = 0) ∧ PI w' p a n c er') ∧ Ex (Is p) w w'
theorem either_any (w : World) (p : Nat) (a : Option Addr) (n c : Nat) (er : Int) (y y' : ByteArray) (h : PI w p a n c er) :
    Calls Try.prog 58 #[.pointer (some ⟨p, 0, none⟩), .string y, .string y'] w (BoolPost w p a n c er) := by
  have HI := hide h
  obtain ⟨pos, k, tp, s, v, at_, hps, ht, hv, ha⟩ := h
  have c6 := hps.c6
  clear hps hv ha ht
  go_enter Try.func58, Try.ntmps58
  by_cases hz : er = 0
  · subst hz
    go_wp2_with fail
    refine (isWord_any _ p a n c 0 y HI.out).mono ?_
    rintro e w1 ⟨b, rfl, rfl⟩
    cases b
    · go_wp2_with fail
      refine (word_any _ p a n c 0 y' HI.out).mono ?_
      rintro e w2 ⟨rfl, hr, hex⟩
      have HR := hide hr
      have HE := hide hex
      clear hr hex c6
      go_wp2
      go_ret
      obtain ⟨er', _, h2⟩ := HR.out
      exact ⟨⟨_, rfl⟩, ⟨er', fun _ => rfl, h2⟩, HE.out⟩
    · go_wp2_with fail
      refine (advance_any _ p a n c 0 HI.out).mono ?_
      rintro e w2 ⟨rfl, hr, hex⟩
      have HR := hide hr
      have HE := hide hex
      clear hr hex c6
      go_wp2
      go_ret
      exact ⟨⟨_, rfl⟩, ⟨0, fun _ => rfl, HR.out⟩, HE.out⟩
  · have hzb : (er != 0) = true := by simp [hz]
    go_wp2
    go_ret
    exact ⟨⟨_, rfl⟩, ⟨er, id, HI.out⟩, Ex.refl _ _⟩
/-- A bounded number: always from 0 to max. -/
def NumPost (w : World) (p : Nat) (a : Option Addr) (n c : Nat) (er max : Int) (e : Ending) (w' : World) : Prop :=
  (∃ x : Int, e = .returned (.int .i64 x) ∧ 0 ≤ x ∧ x ≤ max) ∧ (∃ er', (er' = 0 → er = 0) ∧ PI w' p a n c er') ∧ Ex (Is p) w w'
theorem bounded_any (w : World) (p : Nat) (a : Option Addr) (n c : Nat) (er y max : Int) (hm : 0 ≤ max) (h : PI w p a n c er) :
    Calls Try.prog 31 #[.pointer (some ⟨p, 0, none⟩), .int .i64 y, .int .i64 max] w (NumPost w p a n c er max) := by
  have HI := hide h
  obtain ⟨pos, k, tp, s, v, at_, hps, ht, hv, ha⟩ := h
  have c6 := hps.c6
  have c2 := hps.c2
  have c3 := hps.c3
  have c5 := hps.c5
  clear hps ha
  go_enter Try.func31, Try.ntmps31
  by_cases hz : er = 0
  · subst hz
    by_cases hk : k = y
    · have hkb : (k != y) = false := by simp [hk]
      by_cases hmx : v > max
      · go_wp2_with fail
        refine (fail_any _ p a n c 0 3 tp (by decide) ht HI.out).mono ?_
        rintro e w2 ⟨rfl, hr, hex⟩
        have HR := hide hr
        have HE := hide hex
        clear hr hex c6 c2 c3 c5
        go_wp2
        go_ret
        obtain ⟨er', h1, h2⟩ := HR.out
        exact ⟨⟨0, rfl, by omega, by omega⟩, ⟨er', fun _ => rfl, h2⟩, HE.out⟩
      · go_wp2_with fail
        refine (advance_any _ p a n c 0 HI.out).mono ?_
        rintro e w2 ⟨rfl, hr, hex⟩
        have HR := hide hr
        have HE := hide hex
        clear hr hex c6 c2 c3 c5
        go_wp2
        go_ret
        exact ⟨⟨v, rfl, by omega, by omega⟩, ⟨0, fun _ => rfl, HR.out⟩, HE.out⟩
    · have hkb : (k != y) = true := by simp [hk]
      go_wp2_with fail
      refine (unexpected_any _ p a n c 0 HI.out).mono ?_
      rintro e w2 ⟨rfl, hr, hex⟩
      have HR := hide hr
      have HE := hide hex
      clear hr hex c6 c2 c3 c5
      go_wp2
      go_ret
      obtain ⟨er', h1, h2⟩ := HR.out
      exact ⟨⟨0, rfl, by omega, by omega⟩, ⟨er', fun _ => rfl, h2⟩, HE.out⟩
  · have hzb : (er != 0) = true := by simp [hz]
    go_wp2
    go_ret
    exact ⟨⟨0, rfl, by omega, by omega⟩, ⟨er, id, HI.out⟩, Ex.refl _ _⟩
theorem device_any (w : World) (p : Nat) (a : Option Addr) (n c : Nat) (er : Int) (h : PI w p a n c er) :
    Calls Try.prog 57 #[.pointer (some ⟨p, 0, none⟩)] w (NumPost w p a n c er 15) := by
  have HI := hide h
  clear h
  go_enter Try.func57, Try.ntmps57
  go_wp2_with fail
  refine (bounded_any _ p a n c er 3 15 (by decide) HI.out).mono ?_
  rintro e w2 ⟨⟨x, rfl, h0, h1⟩, hr, hex⟩
  have HR := hide hr
  have HE := hide hex
  clear hr hex
  go_wp2
  go_ret
  exact ⟨⟨x, rfl, h0, h1⟩, HR.out, HE.out⟩
end Go.Proofs.Qxb6500778a
