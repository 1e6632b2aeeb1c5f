import Derived.Test.Qxb6500776aUnP
namespace Go.Proofs.Qxb6500776a
open Go.RowKit

theorem LW.apart {w0 wr w' : World} {p s : Nat} {v1 v2 : Value} {L : List Shp} {M : List Smk} (h : LW w0 wr p s v1 v2 L M) {S : Nat → Prop} (e : Ex S wr w') (hS : ∀ k, S k → ¬ (Foot p v1 v2 k ∨ k = s)) (hb : ∀ k, S k → w0.heap.size ≤ k) : LW w0 w' p s v1 v2 L M := by
  obtain ⟨C, hC⟩ := h.cb
  exact ⟨h.wd.keep e fun k hk hn => hS k hn (.inl hk), h.wo, ⟨C, hC.keep e fun hn => hS s hn (.inr rfl)⟩, h.nf, h.ff, h.fs, h.bel.trans (e.below h.bel.size fun k hk hn => by have := hb k hn; omega)⟩
/-- Two worlds, two scanners, apart. -/
structure UU (w0 wr : World) (p1 s1 p2 s2 : Nat) (v1 v2 : Value) (L1 : List Shp) (M1 : List Smk) (x1 x2 : Value) (L2 : List Shp) (M2 : List Smk) : Prop where
  a : LW w0 wr p1 s1 v1 v2 L1 M1
  b : LW w0 wr p2 s2 x1 x2 L2 M2
  dj : ∀ k, (Foot p1 v1 v2 k ∨ k = s1) → (Foot p2 x1 x2 k ∨ k = s2) → False
section
variable {w0 wr w' : World} {p1 s1 p2 s2 : Nat} {v1 v2 x1 x2 : Value} {L1 L2 : List Shp} {M1 M2 : List Smk}
theorem UU.symm (h : UU w0 wr p1 s1 p2 s2 v1 v2 L1 M1 x1 x2 L2 M2) : UU w0 wr p2 s2 p1 s1 x1 x2 L2 M2 v1 v2 L1 M1 := ⟨h.b, h.a, fun k h1 h2 => h.dj k h2 h1⟩
theorem UU.below (h : UU w0 wr p1 s1 p2 s2 v1 v2 L1 M1 x1 x2 L2 M2) (hb : Below wr.heap.size wr w') : UU w0 w' p1 s1 p2 s2 v1 v2 L1 M1 x1 x2 L2 M2 := ⟨h.a.below hb, h.b.below hb, h.dj⟩
theorem LW.all_lt {w0 wr : World} {p s : Nat} {v1 v2 : Value} {L : List Shp} {M : List Smk} (h : LW w0 wr p s v1 v2 L M) {k : Nat} (hk : Foot p v1 v2 k ∨ k = s) : k < wr.heap.size := by
  rcases hk with z | rfl
  · exact h.wd.lt z
  · exact h.slt
theorem UU.step (h : UU w0 wr p1 s1 p2 s2 v1 v2 L1 M1 x1 x2 L2 M2) {e : Ending} (hp : StPost wr p1 v1 v2 e w') : ∃ r u1 u2 L' M', e = .returned (.int .i64 r) ∧ UU w0 w' p1 s1 p2 s2 u1 u2 L' M' x1 x2 L2 M2 := by
  have hp' := hp
  obtain ⟨r, u1, u2, L', M', rfl, hw, ho, ex, hf⟩ := hp
  obtain ⟨C, hC⟩ := h.a.cb
  have hsl := h.a.slt
  have hb := h.a.bel.size
  refine ⟨r, u1, u2, L', M', rfl, ⟨hw, ho, ⟨C, hC.keep ex h.a.nf⟩, fun e => ?_, fun k hk => ?_, h.a.fs, h.a.bel.trans (ex.below hb fun k hk hn => ?_)⟩, h.b.apart ex (fun k hk hn => h.dj k (.inl hk) hn) (fun k hk => h.a.ff k hk), fun k hk hn => ?_⟩
  · rcases hf s1 e with z | z
    · exact h.a.nf z
    · omega
  · rcases hf k hk with z | z
    · exact h.a.ff k z
    · omega
  · have := h.a.ff k hn; omega
  · have hl := h.b.all_lt hn
    rcases hk with hk | rfl
    · rcases hf k hk with z | z
      · exact h.dj k (.inl z) hn
      · omega
    · exact h.dj _ (.inr rfl) hn
theorem UU.scan (h : UU w0 wr p1 s1 p2 s2 v1 v2 L1 M1 x1 x2 L2 M2) : Calls Try.prog 15 #[.pointer (some ⟨s1, 0, none⟩), .pointer (some ⟨p1, 0, none⟩)] wr fun e w' => ∃ a n c B, e = .returned (.slice a n c) ∧ DRow w' wr.heap.size (.slice a n c) (repN B 768) ∧ n = (repN B 768).length ∧ Bd (DF (L1.filter Shp.afloat) M1) B ∧ Ex (fun k => k = s1) wr w' ∧ UU w0 w' p1 s1 p2 s2 v1 v2 L1 M1 x1 x2 L2 M2 := by
  refine (h.a.scan).mono ?_
  rintro e w' ⟨a, n, c, B, rfl, hdr, hn, hbr, hbd, hex, hl⟩
  refine ⟨a, n, c, B, rfl, hdr, hn, hbd, hex, hl, h.b.apart hex (fun k hk hn => h.dj k (.inr hk) hn) (fun k hk => by rw [hk]; exact h.a.fs), h.dj⟩
theorem UU.first (w : World) : UU w ((((w.alloc (.cells #[.slice none 0 0, .slice none 0 0] 44)).alloc (.cells #[.slice none 0 0, .slice none 0 0] 44)).alloc (.cells Try.zeroCells75 75)).alloc (.cells Try.zeroCells75 75)) w.heap.size (w.heap.size + 2) (w.heap.size + 1) (w.heap.size + 3) (.slice none 0 0) (.slice none 0 0) [] [] (.slice none 0 0) (.slice none 0 0) [] [] := by
  obtain ⟨wa, hwa⟩ : ∃ wa, w.alloc (.cells #[.slice none 0 0, .slice none 0 0] 44) = wa := ⟨_, rfl⟩
  obtain ⟨wb, hwb⟩ : ∃ wb, wa.alloc (.cells #[.slice none 0 0, .slice none 0 0] 44) = wb := ⟨_, rfl⟩
  obtain ⟨wc, hwc⟩ : ∃ wc, wb.alloc (.cells Try.zeroCells75 75) = wc := ⟨_, rfl⟩
  obtain ⟨wd, hwd⟩ : ∃ wd, wc.alloc (.cells Try.zeroCells75 75) = wd := ⟨_, rfl⟩
  have ha : wa.heap.size = w.heap.size + 1 := by rw [← hwa]; simp
  have hb : wb.heap.size = w.heap.size + 2 := by rw [← hwb]; simp [ha]
  have hc : wc.heap.size = w.heap.size + 3 := by rw [← hwc]; simp [hb]
  have b1 : Below w.heap.size w wa := by rw [← hwa]; exact be1 _ _
  have b2 : Below wa.heap.size wa wb := by rw [← hwb]; exact be1 _ _
  have b3 : Below wb.heap.size wb wc := by rw [← hwc]; exact be1 _ _
  have b4 : Below wc.heap.size wc wd := by rw [← hwd]; exact be1 _ _
  have d1 : WD wa w.heap.size (.slice none 0 0) (.slice none 0 0) [] [] := by rw [← hwa]; exact newW_wd w
  have d2 : WD wb (w.heap.size + 1) (.slice none 0 0) (.slice none 0 0) [] [] := by rw [← ha, ← hwb]; exact newW_wd wa
  have d3 : ∃ C, CB wc (w.heap.size + 2) C := by rw [← hb, ← hwc]; exact newS_cb wb
  have d4 : ∃ C, CB wd (w.heap.size + 3) C := by rw [← hc, ← hwd]; exact newS_cb wc
  rw [hwa, hwb, hwc, hwd]
  obtain ⟨C3, d3⟩ := d3
  have bel : Below w.heap.size w wd := lec (lec (lec b1 b2) b3) b4
  refine ⟨⟨((d1.below b2).below b3).below b4, WOk.nil, ⟨C3, d3.below b4⟩, fun h => ?_, fun k h => ?_, by omega, bel⟩, ⟨(d2.below b3).below b4, WOk.nil, d4, fun h => ?_, fun k h => ?_, by omega, bel⟩, fun k h1 h2 => ?_⟩
  · have := foot_nil h; omega
  · have := foot_nil h; omega
  · have := foot_nil h; omega
  · have := foot_nil h; omega
  · rcases h1 with z | z <;> rcases h2 with y | y
    · have := foot_nil z; have := foot_nil y; omega
    · have := foot_nil z; omega
    · have := foot_nil y; omega
    · omega
end
end Go.Proofs.Qxb6500776a
