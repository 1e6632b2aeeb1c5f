import Derived.Test.Qxb6500778aV5
namespace Go.Proofs.Qxb6500778a
open Go.RowKit

/-- configm.Session.Step -/
theorem stepQ_any (w : World) (s : Nat) (y : SM) (vr va ur ua : Nat → Value) (sv : Value) (p : Opn) (da : Option Addr) (cp : Nat) (h : SQ w s y vr va ur ua sv) (hst : y.st.length ≤ 1000000) (hl : p.d.length ≤ 65536) (hcp : p.d.length ≤ cp) (hsrc : SrcAt w da p.d) (hb : Byt p.d) :
    Calls Try.prog 11 #[.pointer (some ⟨s, 0, none⟩), opV p da cp] w (QPost w s vr va ur ua sv (fun k => p.kd = 2 ∧ sv.ownBlock = some k) (stepM y p)) := by
  obtain ⟨kd, a, c, d⟩ := p
  simp only [] at hl hcp hsrc hb
  have wk : ∀ {R : SM × Ans}, Calls Try.prog 11 #[.pointer (some ⟨s, 0, none⟩), opV ⟨kd, a, c, d⟩ da cp] w (QPost w s vr va ur ua sv (fun _ => False) R) → Calls Try.prog 11 #[.pointer (some ⟨s, 0, none⟩), opV ⟨kd, a, c, d⟩ da cp] w (QPost w s vr va ur ua sv (fun k => kd = 2 ∧ sv.ownBlock = some k) R) := fun hh => hh.mono (fun e w' ⟨h1, h2, h3⟩ => ⟨h1, h2.mono (fun k hk => by
    rcases hk with hk | hk
    · exact .inl hk
    · exact hk.elim), h3⟩)
  unfold stepM
  simp only []
  by_cases k0 : kd = 0
  · subst k0
    rw [if_pos rfl]
    split
    · rename_i he; exact wk (q_par_ok w s y vr va ur ua sv a c da d cp h hl hcp hsrc hb he)
    · rename_i he; exact wk (q_par_bad w s y vr va ur ua sv a c da d cp h hl hcp hsrc hb he)
  · rw [if_neg k0]
    by_cases k1 : kd = 1
    · subst k1
      rw [if_pos rfl]
      split
      · rename_i he; exact wk (q_sub_ok w s y vr va ur ua sv a c da d cp h hl hcp hsrc hb he)
      · rename_i he; exact wk (q_sub_bad w s y vr va ur ua sv a c da d cp h hl hcp hsrc hb he)
    · rw [if_neg k1]
      by_cases k2 : kd = 2
      · subst k2
        rw [if_pos rfl]
        exact (q_stage w s y vr va ur ua sv a c da d cp h hst).mono (fun e w' ⟨h1, h2, h3⟩ => ⟨h1, h2.mono (fun k hk => by
          rcases hk with hk | hk
          · exact .inl hk
          · exact .inr ⟨rfl, hk⟩), h3⟩)
      · rw [if_neg k2]
        by_cases k3 : kd = 3
        · subst k3
          rw [if_pos rfl]
          exact wk (q_commit w s y vr va ur ua sv a c da d cp h (Nat.le_trans hst (by decide)))
        · rw [if_neg k3]
          by_cases k4 : kd = 4
          · subst k4
            rw [if_pos rfl]
            split
            · rename_i hc; exact wk (q_undo1 w s y vr va ur ua sv a c da d cp h hc)
            · rename_i hc; exact wk (q_undo0 w s y vr va ur ua sv a c da d cp h (by simpa using hc))
          · rw [if_neg k4]
            exact wk (q_other w s y vr va ur ua sv kd a c da d cp h (by omega))
end Go.Proofs.Qxb6500778a
