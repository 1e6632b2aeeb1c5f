import Derived.Test.Qxb6500773aGreatOk2
namespace Go.Proofs.Qxb6500773aGreat
open Go.RowKit

def nb3 (w : World) : World := ((w.alloc (.cells #[.int .i64 0, .slice none 0 0, .slice none 0 0] 73)).alloc (.cells #[.slice none 0 0, .int .i64 0] 76)).alloc (.cells #[.slice none 0 0, .slice none 0 0, .slice none 0 0] 79)
def nb4 (w : World) (f a p : Nat) : World := (nb3 w).alloc (.cells #[.pointer (some ⟨f, 0, none⟩), .pointer (some ⟨a, 0, none⟩), .pointer (some ⟨p, 0, none⟩), .pointer (some ⟨w.heap.size, 0, none⟩), .pointer (some ⟨w.heap.size + 1, 0, none⟩), .pointer (some ⟨w.heap.size + 1 + 1, 0, none⟩)] 51)
def sel {α : Type} (a b c d e f : α) : Nat → α
  | 0 => a
  | 1 => b
  | 2 => c
  | 3 => d
  | 4 => e
  | _ => f
theorem bn_new {w w1 w2 w3 : World} {f a p : Nat} {va : Value} (hf : FF w1 w.heap.size f (.slice none 0 0) (.slice none 0 0) 0 [] []) (hf0 : w.heap.size ≤ f) (b1 : Below w.heap.size w w1) (ha : AT w2 w1.heap.size a va 0 [0]) (ha0 : w1.heap.size ≤ a) (b2 : Below w1.heap.size w1 w2) (hp : PF w3 w2.heap.size p (.slice none 0 0) (.slice none 0 0) (.slice none 0 0) [] [] []) (hp0 : w2.heap.size ≤ p) (b3 : Below w2.heap.size w2 w3) :
    BX (nb4 w3 f a p) w.heap.size (w3.heap.size + 1 + 1 + 1) st0 ∧ Below w.heap.size w (nb4 w3 f a p) := by
  have e3 : Ex (fun _ => False) w3 (nb4 w3 f a p) := ((((Ex.refl _ w3).alloc _).alloc _).alloc _).alloc _
  have e2 : Ex (fun _ => False) w2 (nb4 w3 f a p) := (Ex.of b3).trans e3
  have e1 : Ex (fun _ => False) w1 (nb4 w3 f a p) := (Ex.of b2).trans e2
  have lf := hf.ar.lt
  have la := ha.lt
  have lp := hp.ar.lt
  have s1 := b1.size
  have s2 := b2.size
  have s3 := b3.size
  have hsz : (nb4 w3 f a p).heap.size = w3.heap.size + 1 + 1 + 1 + 1 := by simp [nb4, nb3]
  have hva : ∀ k, va.ownBlock = some k → w1.heap.size ≤ k ∧ k < w2.heap.size := fun k hk => ha.row.lt k hk
  have q0 : FF (nb4 w3 f a p) w.heap.size f (.slice none 0 0) (.slice none 0 0) 0 [] [] := hf.keepZ e1 (fun z => z) (fun _ _ z => z) (fun _ _ z => z)
  have q1 : AT (nb4 w3 f a p) w1.heap.size a va 0 [0] := ha.keep e2 (fun z => z) (fun _ _ z => z)
  have q2 : PF (nb4 w3 f a p) w2.heap.size p (.slice none 0 0) (.slice none 0 0) (.slice none 0 0) [] [] [] := hp.keepZ e3 (fun z => z) (fun _ _ z => z) (fun _ _ z => z) (fun _ _ z => z)
  have q3 : FF (nb4 w3 f a p) w.heap.size w3.heap.size (.slice none 0 0) (.slice none 0 0) 0 [] [] := by
    refine ⟨⟨?_, ?_, fun j => ?_, World.ownsRow_nil _ _ _ _, World.ownsRow_nil _ _ _ _, by simp [Value.ownBlock], by simp [Value.ownBlock], fun k hk => (by cases hk)⟩, ?_⟩ <;> simp [nb4, nb3, go_sem]
  have q4 : AT (nb4 w3 f a p) w.heap.size (w3.heap.size + 1) (.slice none 0 0) 0 [] := by
    refine ⟨?_, ?_, fun j => ?_, World.ownsRow_nil _ _ _ _, by simp [Value.ownBlock]⟩ <;> simp [nb4, nb3, go_sem]
  have q5 : PF (nb4 w3 f a p) w.heap.size (w3.heap.size + 1 + 1) (.slice none 0 0) (.slice none 0 0) (.slice none 0 0) [] [] [] := by
    refine ⟨⟨?_, ?_, fun j => ?_, World.ownsRow_nil _ _ _ _, World.ownsRow_nil _ _ _ _, by simp [Value.ownBlock], by simp [Value.ownBlock], fun k hk => (by cases hk)⟩, ?_, World.ownsRow_nil _ _ _ _, by simp [Value.ownBlock], fun k hk => (by cases hk), fun k hk => (by cases hk)⟩ <;> simp [nb4, nb3, go_sem]
  have hS1 : ∀ k, (k = a ∨ va.ownBlock = some k) → w1.heap.size ≤ k ∧ k < w2.heap.size := fun k hk => by
    rcases hk with hk | hk
    · omega
    · exact hva k hk
  refine ⟨⟨sel f a p w3.heap.size (w3.heap.size + 1) (w3.heap.size + 1 + 1), sel (fun k => k = f) (fun k => k = a ∨ va.ownBlock = some k) (fun k => k = p) (fun k => k = w3.heap.size) (fun k => k = w3.heap.size + 1) (fun k => k = w3.heap.size + 1 + 1), ?_⟩, ?_⟩
  · refine ⟨six ?_ ?_ ?_ ?_ ?_ ?_, fun j => ?_, six ?_ ?_ ?_ ?_ ?_ ?_, six ?_ ?_ ?_ ?_ ?_ ?_, ?_, six ?_ ?_ ?_ ?_ ?_ ?_, by omega, frm_s _ _⟩
    · simp [nb4, nb3, go_sem, sel]
    · simp [nb4, nb3, go_sem, sel]
    · simp [nb4, nb3, go_sem, sel]
    · simp [nb4, nb3, go_sem, sel]
    · simp [nb4, nb3, go_sem, sel]
    · simp [nb4, nb3, go_sem, sel]
    · simp [nb4, nb3, go_sem]
    · exact ⟨_, _, q0, fun k => ⟨fun z => .inl z, fun z => z.elim id (fun z => z.elim (fun z => by cases z) (fun z => by cases z))⟩⟩
    · exact ⟨_, ⟨q1.c0, q1.c1, q1.fz, own_base s1 q1.row, q1.ne⟩, fun k => Iff.rfl⟩
    · exact ⟨_, _, _, PF.base (Nat.le_trans s1 s2) q2, fun k => ⟨fun z => .inl z, fun z => z.elim id (fun z => z.elim (fun z => by cases z) (fun z => z.elim (fun z => by cases z) (fun z => by cases z)))⟩⟩
    · exact ⟨_, _, q3, fun k => ⟨fun z => .inl z, fun z => z.elim id (fun z => z.elim (fun z => by cases z) (fun z => by cases z))⟩⟩
    · exact ⟨_, q4, fun k => ⟨fun z => .inl z, fun z => z.elim id (fun z => by cases z)⟩⟩
    · exact ⟨_, _, _, q5, fun k => ⟨fun z => .inl z, fun z => z.elim id (fun z => z.elim (fun z => by cases z) (fun z => z.elim (fun z => by cases z) (fun z => by cases z)))⟩⟩
    · intro k (hk : k = f); rw [hsz]; omega
    · intro k hk; have := hS1 k hk; rw [hsz]; omega
    · intro k (hk : k = p); rw [hsz]; omega
    · intro k (hk : k = w3.heap.size); rw [hsz]; omega
    · intro k (hk : k = w3.heap.size + 1); rw [hsz]; omega
    · intro k (hk : k = w3.heap.size + 1 + 1); rw [hsz]; omega
    · have key : ∀ i, i < 6 → ∀ k, sel (fun k => k = f) (fun k => k = a ∨ va.ownBlock = some k) (fun k => k = p) (fun k => k = w3.heap.size) (fun k => k = w3.heap.size + 1) (fun k => k = w3.heap.size + 1 + 1) i k → sel w.heap.size w1.heap.size w2.heap.size w3.heap.size (w3.heap.size + 1) (w3.heap.size + 1 + 1) i ≤ k ∧ k < sel w1.heap.size w2.heap.size w3.heap.size (w3.heap.size + 1) (w3.heap.size + 1 + 1) (w3.heap.size + 1 + 1 + 1) i := by
        refine six ?_ ?_ ?_ ?_ ?_ ?_
        · intro k (hk : k = f); exact ⟨by show w.heap.size ≤ k; omega, by show k < w1.heap.size; omega⟩
        · intro k hk; exact hS1 k hk
        · intro k (hk : k = p); exact ⟨by show w2.heap.size ≤ k; omega, by show k < w3.heap.size; omega⟩
        · intro k (hk : k = w3.heap.size); exact ⟨by show w3.heap.size ≤ k; omega, by show k < w3.heap.size + 1; omega⟩
        · intro k (hk : k = w3.heap.size + 1); exact ⟨by show w3.heap.size + 1 ≤ k; omega, by show k < w3.heap.size + 1 + 1; omega⟩
        · intro k (hk : k = w3.heap.size + 1 + 1); exact ⟨by show w3.heap.size + 1 + 1 ≤ k; omega, by show k < w3.heap.size + 1 + 1 + 1; omega⟩
      have mono : ∀ i j, i < 6 → j < 6 → i < j → sel w1.heap.size w2.heap.size w3.heap.size (w3.heap.size + 1) (w3.heap.size + 1 + 1) (w3.heap.size + 1 + 1 + 1) i ≤ sel w.heap.size w1.heap.size w2.heap.size w3.heap.size (w3.heap.size + 1) (w3.heap.size + 1 + 1) j := by
        intro i j hi hj hij
        match i, j, hi, hj, hij with
        | 0, 1, _, _, _ => exact Nat.le_refl _
        | 0, 2, _, _, _ => show w1.heap.size ≤ w2.heap.size; omega
        | 0, 3, _, _, _ => show w1.heap.size ≤ w3.heap.size; omega
        | 0, 4, _, _, _ => show w1.heap.size ≤ w3.heap.size + 1; omega
        | 0, 5, _, _, _ => show w1.heap.size ≤ w3.heap.size + 1 + 1; omega
        | 1, 2, _, _, _ => exact Nat.le_refl _
        | 1, 3, _, _, _ => show w2.heap.size ≤ w3.heap.size; omega
        | 1, 4, _, _, _ => show w2.heap.size ≤ w3.heap.size + 1; omega
        | 1, 5, _, _, _ => show w2.heap.size ≤ w3.heap.size + 1 + 1; omega
        | 2, 3, _, _, _ => exact Nat.le_refl _
        | 2, 4, _, _, _ => show w3.heap.size ≤ w3.heap.size + 1; omega
        | 2, 5, _, _, _ => show w3.heap.size ≤ w3.heap.size + 1 + 1; omega
        | 3, 4, _, _, _ => exact Nat.le_refl _
        | 3, 5, _, _, _ => show w3.heap.size + 1 ≤ w3.heap.size + 1 + 1; omega
        | 4, 5, _, _, _ => exact Nat.le_refl _
        | i + 5, j, _, _, _ => omega
      intro i j hi hj hij k hk hk'
      have h1 := key i hi k hk
      have h2 := key j hj k hk'
      rcases Nat.lt_or_gt_of_ne hij with z | z
      · have := mono i j hi hj z; omega
      · have := mono j i hj hi z; omega
    · intro (hk : w3.heap.size + 1 + 1 + 1 = f); omega
    · intro hk; have := hS1 _ hk; omega
    · intro (hk : w3.heap.size + 1 + 1 + 1 = p); omega
    · intro (hk : w3.heap.size + 1 + 1 + 1 = w3.heap.size); omega
    · intro (hk : w3.heap.size + 1 + 1 + 1 = w3.heap.size + 1); omega
    · intro (hk : w3.heap.size + 1 + 1 + 1 = w3.heap.size + 1 + 1); omega
  · exact (lec (lec (lec b1 b2) b3) (e3.below (Nat.le_refl _) (fun _ _ z => z)))
def NbPost (w : World) (e : Ending) (w' : World) : Prop := ∃ r, e = .returned (.pointer (some ⟨r, 0, none⟩)) ∧ BX w' w.heap.size r st0 ∧ Below w.heap.size w w'
set_option linter.unusedSimpArgs false in
set_option maxRecDepth 100000 in
set_option maxHeartbeats 4000000 in
/-- cnflaw.newRealBench -/
theorem newBench_any (w : World) : Calls Tryz.prog 7 #[] w (NbPost w) := by
  have c1 := hide (newFormula_any w)
  go_enter Tryz.func7, Tryz.ntmps7
  go_wp2_with fail
  refine c1.out.mono ?_
  rintro e w1 ⟨f, rfl, hf, hf0, b1⟩
  have HF := hide (And.intro hf (And.intro hf0 b1))
  clear hf hf0 b1 c1
  have c2 := hide (newAssignment_any w1 0 (by omega))
  rw [show growP [] 0 = [0] from rfl] at c2
  go_wp2_with fail
  refine c2.out.mono ?_
  rintro e w2 ⟨a, va, rfl, ha, ha0, b2⟩
  have HA := hide (And.intro ha (And.intro ha0 b2))
  clear ha ha0 b2 c2
  have c3 := hide (newProof_any w2)
  go_wp2_with fail
  refine c3.out.mono ?_
  rintro e w3 ⟨p, rfl, hp, hp0, b3⟩
  have HN := hide (bn_new HF.out.1 HF.out.2.1 HF.out.2.2 HA.out.1 HA.out.2.1 HA.out.2.2 hp hp0 b3)
  clear hp hp0 b3 c3 HF HA
  unfold nb4 nb3 at HN
  have HP : Hid (NbPost w (.returned (.pointer (some ⟨w3.heap.size + 1 + 1 + 1, 0, none⟩))) _) := ⟨_, rfl, HN.out⟩
  go_wp2
  go_ret
  exact HP.out
end Go.Proofs.Qxb6500773aGreat
