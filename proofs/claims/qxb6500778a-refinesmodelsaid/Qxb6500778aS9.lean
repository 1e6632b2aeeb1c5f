import Derived.Test.Qxb6500778aS6
import Derived.Test.Qxb6500778aS8
namespace Go.Proofs.Qxb6500778a
open Go.RowKit

/-- A step of a script. -/
structure Opn where
  kd : Int
  a : Int
  c : Chg
  d : List Int
def opV (p : Opn) (da : Option Addr) (cp : Nat) : Value := .agg #[.int .i64 p.kd, .int .i64 p.a, .int .i64 p.c.kd, .int .i64 p.c.dv, .int .i64 p.c.hp, .int .i64 p.c.pr, .int .i64 p.c.ln, .int .i64 p.c.ix, .int .i64 p.c.cl, .bool p.c.pm, .bool p.c.up, .slice da p.d.length cp]
structure Ans where
  e : Int
  t : Int
  x : ByteArray
/-- A session's step, plain. -/
def stepS (x : Sn) (p : Opn) : Sn × Ans :=
  if p.kd = 0 then (if (parseP p.d).er = 0 then (x, ⟨0, 0, strOfNums (printT (parseP p.d).id (parseP p.d).cs)⟩) else (x, ⟨(parseP p.d).er, (parseP p.d).at_, ⟨#[]⟩⟩))
  else if p.kd = 1 then (if (parseP p.d).er = 0 then (applyS x (parseP p.d).id (parseP p.d).cs, ⟨(runP x.N (parseP p.d).id (parseP p.d).cs).2.2.1, (runP x.N (parseP p.d).id (parseP p.d).cs).2.2.2, ⟨#[]⟩⟩) else (x, ⟨(parseP p.d).er, (parseP p.d).at_, ⟨#[]⟩⟩))
  else if p.kd = 2 then ({ x with st := x.st ++ [p.c] }, ⟨0, 0, ⟨#[]⟩⟩)
  else if p.kd = 3 then (applyS { x with st := [] } p.a x.st, ⟨(runP x.N p.a x.st).2.2.1, (runP x.N p.a x.st).2.2.2, ⟨#[]⟩⟩)
  else if p.kd = 4 then (if x.cu = true then ({ { x with cu := false } with N := applyP x.N x.uid x.us }, ⟨(runP x.N x.uid x.us).2.2.1, (runP x.N x.uid x.us).2.2.2, ⟨#[]⟩⟩) else (x, ⟨9, 0, ⟨#[]⟩⟩))
  else (x, ⟨0, 0, ⟨#[]⟩⟩)
/-- session.step -/
theorem stepS_any (w : World) (s b : Nat) (x : Sn) (vr va : Nat → Value) (sv uv : Value) (p : Opn) (da : Option Addr) (cp : Nat) (h : SS w s b x vr va sv uv) (hst : x.st.length ≤ 1000000) (hl : p.d.length ≤ 9223372036854775807) (hcp : p.d.length ≤ cp) (hsrc : SrcAt w da p.d) :
    Calls Try.prog 10 #[.pointer (some ⟨s, 0, none⟩), opV p da cp] w (TPost w s b vr va sv uv (fun k => p.kd = 2 ∧ sv.ownBlock = some k) (stepS x p).1 (ansV (stepS x p).2.e (stepS x p).2.t (stepS x p).2.x)) := by
  obtain ⟨kd, a, c, d⟩ := p
  simp only [] at hl hcp hsrc
  have wk : ∀ {x' : Sn} {v : Value}, Calls Try.prog 10 #[.pointer (some ⟨s, 0, none⟩), opV ⟨kd, a, c, d⟩ da cp] w (TPost w s b vr va sv uv (fun _ => False) x' v) → Calls Try.prog 10 #[.pointer (some ⟨s, 0, none⟩), opV ⟨kd, a, c, d⟩ da cp] w (TPost w s b vr va sv uv (fun k => kd = 2 ∧ sv.ownBlock = some k) x' v) := fun hh => hh.mono (fun e w' ⟨h1, h2, h3⟩ => ⟨h1, h2.mono (fun k hk => by
    rcases hk with hk | hk | hk
    · exact .inl hk
    · exact .inr (.inl hk)
    · exact hk.elim), h3⟩)
  unfold stepS
  simp only []
  by_cases k0 : kd = 0
  · subst k0
    rw [if_pos rfl]
    split
    · rename_i he; exact wk (step_par_ok w s b x vr va sv uv a c da d cp h hl hcp hsrc he)
    · rename_i he; exact wk (step_par_bad w s b x vr va sv uv a c da d cp h hl hcp hsrc he)
  · rw [if_neg k0]
    by_cases k1 : kd = 1
    · subst k1
      rw [if_pos rfl]
      split
      · rename_i he; exact wk (step_sub_ok w s b x vr va sv uv a c da d cp h hl hcp hsrc he)
      · rename_i he; exact wk (step_sub_bad w s b x vr va sv uv a c da d cp h hl hcp hsrc he)
    · rw [if_neg k1]
      by_cases k2 : kd = 2
      · subst k2
        rw [if_pos rfl]
        exact (step_stage w s b x vr va sv uv a c da d cp h hst).mono (fun e w' ⟨h1, h2, h3⟩ => ⟨h1, h2.mono (fun k hk => by
          rcases hk with hk | hk | hk
          · exact .inl hk
          · exact .inr (.inl hk)
          · exact .inr (.inr ⟨rfl, hk⟩)), h3⟩)
      · rw [if_neg k2]
        by_cases k3 : kd = 3
        · subst k3
          rw [if_pos rfl]
          exact wk (step_commit w s b x vr va sv uv a c da d cp h (Nat.le_trans hst (by decide)))
        · rw [if_neg k3]
          by_cases k4 : kd = 4
          · subst k4
            rw [if_pos rfl]
            split
            · rename_i hc; exact wk (step_undo1 w s b x vr va sv uv a c da d cp h hc)
            · rename_i hc; exact wk (step_undo0 w s b x vr va sv uv a c da d cp h (by simpa using hc))
          · rw [if_neg k4]
            exact wk (step_other w s b x vr va sv uv kd a c da d cp h (by omega))
end Go.Proofs.Qxb6500778a
