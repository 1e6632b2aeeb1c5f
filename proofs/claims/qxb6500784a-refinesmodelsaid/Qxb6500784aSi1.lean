import Derived.Test.Qxb6500784aSi0
import Derived.Test.Qxb6500784aOrder
namespace Go.Proofs.Qxb6500784a
open Go.RowKit

/-! ### simulate: plain -/
/-- What a call that answers a result gives. -/
def SimPost (w : World) (b : Nat) (S : List Nat) (P' : Pr) (r : Rs) (e : Ending) (w' : World) : Prop :=
  ∃ vo vr vs C S', e = .returned (.agg (r.vals vo vr vs).toArray) ∧ RL w' r vo vr vs C ∧ r.Ok ∧ Link w b S w' S' ∧ PP w' b P' S' ∧ ∀ k, k ∈ C → w.heap.size ≤ k ∧ k ∉ S'
def legL (l : Leg) : List Value := (List.range 86).map l.v
theorem legL_len (l : Leg) : (legL l).length = 86 := by simp [legL]
theorem legL_at (l : Leg) {j : Nat} (hj : j < 86) : (legL l)[j]? = some (l.v j) := by simp [legL, hj]
def runK (L : Nat → Leg) (T : Nat → List Int) : List Nat → Pr → Rs → Pr × Rs × Int × Int
  | [], P, r => (P, r, 0, -1)
  | i :: is, P, r => if legC P (L i).ch (T i) = 0 then runK L T is (legS P (L i).ch (T i)) (legR P (L i).ch (T i) r) else (legS P (L i).ch (T i), r, legC P (L i).ch (T i), i)
theorem LW.trans {w0 w w' : World} {b d : Nat} {S0 C0 S C S' C' : List Nat} {P P' : Pr} {r r' : Rs} {X : List (Nat × List Value)} (h : LW w0 b d S0 C0 w P S r C X) (k : LW w b d S C w' P' S' r' C' []) : LW w0 b d S0 C0 w' P' S' r' C' X := by
  refine ⟨k.rw, fun p hp => ?_, h.ex.trans2 k.ex (fun j hj => ?_), fun j hj => ?_, fun j hj => ?_, h.ap⟩
  · have l := h.lo p hp
    have o : ¬ (p.1 = b ∨ p.1 ∈ S ∨ p.1 = d ∨ p.1 ∈ C) := by
      rintro (z | z | z | z)
      · exact l.nb z
      · exact l.nS z
      · exact l.nd z
      · exact l.nC z
    refine ⟨range_ex l.rg l.lt k.ex o, there_ex l.th l.lt k.ex o, Nat.lt_of_lt_of_le l.lt k.ex.size, l.nb, fun e => ?_, l.nd, fun e => ?_⟩
    · rcases k.fs _ e with z | z
      · exact l.nS z
      · have := l.lt; omega
    · rcases k.fc _ e with z | z
      · exact l.nC z
      · have := l.lt; omega
  · rcases hj with z | z | z | z
    · exact .inl (.inl z)
    · exact (h.fs j z).imp (fun y => .inr (.inl y)) id
    · exact .inl (.inr (.inr (.inl z)))
    · exact (h.fc j z).imp (fun y => .inr (.inr (.inr y))) id
  · rcases k.fs j hj with z | z
    · exact h.fs j z
    · right; have := h.ex.size; omega
  · rcases k.fc j hj with z | z
    · exact h.fc j z
    · right; have := h.ex.size; omega
theorem LW.addX {w0 w : World} {b d : Nat} {S0 C0 S C : List Nat} {P : Pr} {r : Rs} {X : List (Nat × List Value)} (h : LW w0 b d S0 C0 w P S r C X) {q : Nat} {cs : List Value} (l : Loc w b S d C q cs) (hn : q ∉ X.map (·.1)) : LW w0 b d S0 C0 w P S r C ((q, cs) :: X) :=
  ⟨h.rw, fun p hp => by
    rcases List.mem_cons.1 hp with rfl | hp
    · exact l
    · exact h.lo p hp, h.ex, h.fs, h.fc, by rw [List.map_cons, List.nodup_cons]; exact ⟨hn, h.ap⟩⟩
/-- A leg's step leaves the checkpoints and L1 as they are. -/
theorem legS_keep (P : Pr) {c : Int} (hc : c = 1 ∨ c = 2) (t : List Int) : (legS P c t).sa = P.sa ∧ (legS P c t).sb = P.sb ∧ (legS P c t).ta = P.ta ∧ (legS P c t).tb = P.tb ∧ (legS P c t).b1 = P.b1 ∧ (legS P c t).t1 = P.t1 := by
  unfold legS
  rcases hc with rfl | rfl
  · split
    · exact ⟨rfl, rfl, rfl, rfl, rfl, rfl⟩
    · split
      · exact ⟨rfl, rfl, rfl, rfl, rfl, rfl⟩
      · split <;> exact ⟨rfl, rfl, rfl, rfl, rfl, rfl⟩
  · split
    · exact ⟨rfl, rfl, rfl, rfl, rfl, rfl⟩
    · split
      · exact ⟨rfl, rfl, rfl, rfl, rfl, rfl⟩
      · split <;> exact ⟨rfl, rfl, rfl, rfl, rfl, rfl⟩
def Same6 (Q P : Pr) : Prop := Q.sa = P.sa ∧ Q.sb = P.sb ∧ Q.ta = P.ta ∧ Q.tb = P.tb ∧ Q.b1 = P.b1 ∧ Q.t1 = P.t1
theorem runK_keep {L : Nat → Leg} {T : Nat → List Int} : ∀ (is : List Nat) (_ : ∀ i, i ∈ is → (L i).ch = 1 ∨ (L i).ch = 2) (P : Pr) (r : Rs), Same6 (runK L T is P r).1 P
  | [], _, P, r => ⟨rfl, rfl, rfl, rfl, rfl, rfl⟩
  | i :: is, h, P, r => by
    have h1 := legS_keep P (h i (by simp)) (T i)
    rw [runK]
    split
    · have h2 := runK_keep (L := L) (T := T) is (fun j hj => h j (by simp [hj])) (legS P (L i).ch (T i)) (legR P (L i).ch (T i) r)
      exact ⟨h2.1.trans h1.1, h2.2.1.trans h1.2.1, h2.2.2.1.trans h1.2.2.1, h2.2.2.2.1.trans h1.2.2.2.1, h2.2.2.2.2.1.trans h1.2.2.2.2.1, h2.2.2.2.2.2.trans h1.2.2.2.2.2⟩
    · exact h1
theorem onto_of {Q P : Pr} (h : Same6 Q (opened P)) : onto Q P = Q := by
  obtain ⟨a, b, c, d, e, f⟩ := h
  cases Q
  simp only [opened] at a b c d e f
  simp only [onto, a, b, c, d, e, f]
theorem undone_of {Q P : Pr} (h : Same6 Q (opened P)) : undone Q P = P := by
  obtain ⟨a, b, c, d, e, f⟩ := h
  simp only [opened] at e f
  cases P
  simp only [undone] at e f ⊢
  rw [e, f]
/-- Lists grow by one. -/
theorem legS_len (P : Pr) (c : Int) (t : List Int) (n : Nat) (hm : ∀ c, (P.led c).mks.length ≤ n) (ho : ∀ c, (P.box c).out.length ≤ n) (hi : ∀ c, (P.box c).inb.length ≤ n) : (∀ x, ((legS P c t).led x).mks.length ≤ n + 1) ∧ (∀ x, ((legS P c t).box x).out.length ≤ n + 1) ∧ (∀ x, ((legS P c t).box x).inb.length ≤ n + 1) := by
  have la : (appL (P.led c) t).mks.length ≤ n + 1 := by
    have := hm c
    unfold appL
    split
    · omega
    · split
      · show (P.led c).mks.length ≤ n + 1; omega
      · split
        · show (P.led c).mks.length ≤ n + 1; omega
        · split
          · simp; omega
          · split
            · show (P.led c).mks.length ≤ n + 1; omega
            · simp; omega
  have k1 : ∀ x, ((P.setL c (appL (P.led c) t) (P.sled c)).led x).mks.length ≤ n + 1 := fun x => by
    have h := hm x
    unfold Pr.setL Pr.led at *
    by_cases h1 : c = 1
    · by_cases h2 : x = 1
      · simp only [h1, h2, if_true] at la ⊢; exact la
      · simp only [h1, h2, if_true, if_false] at h ⊢; omega
    · by_cases h2 : x = 1
      · simp only [h1, h2, if_true, if_false] at h ⊢; omega
      · simp only [h1, h2, if_false] at la ⊢; exact la
  have bx : ∀ (Q : Pr) (y : Box0) (sv : List Box0), y.out.length ≤ n + 1 → y.inb.length ≤ n + 1 → (∀ x, (Q.box x).out.length ≤ n) → (∀ x, (Q.box x).inb.length ≤ n) → (∀ x, ((Q.setB c y sv).box x).out.length ≤ n + 1) ∧ (∀ x, ((Q.setB c y sv).box x).inb.length ≤ n + 1) ∧ ∀ x, (Q.setB c y sv).led x = Q.led x := fun Q y sv h1 h2 h3 h4 => by
    have a3 := h3 1; have b3 := h3 2; have c3 := h3 3
    have a4 := h4 1; have b4 := h4 2; have c4 := h4 3
    simp only [Pr.box, if_true, show ((2 : Int) = 1) = False by simp, show ((3 : Int) = 1) = False by simp, show ((3 : Int) = 2) = False by simp, if_false] at a3 b3 c3 a4 b4 c4
    refine ⟨fun x => ?_, fun x => ?_, fun x => ?_⟩
    · unfold Pr.setB
      split
      · unfold Pr.box; split
        · exact h1
        · split <;> (simp only; omega)
      · split
        · unfold Pr.box; split
          · simp only; omega
          · split
            · exact h1
            · simp only; omega
        · unfold Pr.box; split
          · simp only; omega
          · split
            · simp only; omega
            · exact h1
    · unfold Pr.setB
      split
      · unfold Pr.box; split
        · exact h2
        · split <;> (simp only; omega)
      · split
        · unfold Pr.box; split
          · simp only; omega
          · split
            · exact h2
            · simp only; omega
        · unfold Pr.box; split
          · simp only; omega
          · split
            · simp only; omega
            · exact h2
    · unfold Pr.setB; split
      · rfl
      · split <;> rfl
  have o' : ∀ x, ((P.setL c (appL (P.led c) t) (P.sled c)).box x).out.length ≤ n := fun x => by rw [Pr.setL_box]; exact ho x
  have i' : ∀ x, ((P.setL c (appL (P.led c) t) (P.sled c)).box x).inb.length ≤ n := fun x => by rw [Pr.setL_box]; exact hi x
  unfold legS
  split
  · exact ⟨fun x => by have := hm x; omega, fun x => by have := ho x; omega, fun x => by have := hi x; omega⟩
  · split
    · obtain ⟨z1, z2, z3⟩ := bx (P.setL c (appL (P.led c) t) (P.sled c)) (conB (P.box c) (P.box (fld t 43)) (txMsg t)) (P.sbox c) (by
        have := ho c; unfold conB; split <;> first | omega | (simp only [tookB]; omega)) (by
        have := hi c; unfold conB; split
        · simp [tookB]; omega
        · omega) o' i'
      exact ⟨fun x => by rw [z3]; exact k1 x, z1, z2⟩
    · split
      · obtain ⟨z1, z2, z3⟩ := bx (P.setL c (appL (P.led c) t) (P.sled c)) (sndB (P.box c) (sntM (P.led c) t)) (P.sbox c) (by
          have := ho c; unfold sndB; split
          · omega
          · simp [sentB]; omega) (by
          have := hi c; unfold sndB; split <;> first | omega | (simp only [sentB]; omega)) o' i'
        exact ⟨fun x => by rw [z3]; exact k1 x, z1, z2⟩
      · exact ⟨k1, fun x => by have := o' x; omega, fun x => by have := i' x; omega⟩
end Go.Proofs.Qxb6500784a
