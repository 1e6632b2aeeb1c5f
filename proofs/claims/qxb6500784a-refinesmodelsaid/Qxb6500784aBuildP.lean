import Derived.Test.Qxb6500784aBuild
import Derived.Deep.MidRow
import Derived.Deep.WholeRow
namespace Go.Proofs.Qxb6500784a
open Go.RowKit

/-- The code of the first leg that is faulty by itself, among those from i on. -/
def firstCode (L : Nat → Leg) : Nat → Nat → Int
  | 0, _ => 0
  | k + 1, i => if legCode (L i) = 0 then firstCode L k (i + 1) else legCode (L i)
open Classical in
noncomputable def bCode (n : Nat) (L : Nat → Leg) : Int :=
  if n = 0 then 60 else if n > 8 then 61 else if firstCode L n 0 ≠ 0 then firstCode L n 0
  else if ∃ i j, i < j ∧ j < n ∧ (L i).id = (L j).id then 65
  else if ∃ i k, i < n ∧ k < (L i).nn ∧ ∀ j, j < n → (L j).id ≠ (L i).nd k then 66 else 0
/-- The graph's nine cells. -/
def gArr (gn : Int) (m : Nat → Nat) : Array Value := #[.int .i64 gn, .int .u8 (m 0), .int .u8 (m 1), .int .u8 (m 2), .int .u8 (m 3), .int .u8 (m 4), .int .u8 (m 5), .int .u8 (m 6), .int .u8 (m 7)]
def NeedBits (n : Nat) (L : Nat → Leg) (m : Nat → Nat) : Prop := ∀ i j, (m i).testBit j = true ↔ i < n ∧ j < n ∧ ∃ k, k < (L i).nn ∧ (L i).nd k = (L j).id

theorem Try.z140 : (Try.prog.info? 140).map (fun i => (i.zero, i.size)) = some (some (.agg (Array.replicate 256 (.int .u8 0))), 256) := by kernel_rfl

/-- A graph's variable. -/
structure G9 (w : World) (p : Nat) (gn : Int) (m : Nat → Nat) : Prop where
  c0 : w.cell? ⟨p, 0, none⟩ = some (.int .i64 gn)
  cs : ∀ j, j < 8 → w.cell? ⟨p, 1 + j, none⟩ = some (.int .u8 (m j))
  fr : ∀ j, w.frozen? ⟨p, j, none⟩ = false
theorem G9.below {w w' : World} {p : Nat} {gn : Int} {m : Nat → Nat} (h : G9 w p gn m) (hb : Below w.heap.size w w') : G9 w' p gn m :=
  ⟨cellKeep hb h.c0, fun j hj => cellKeep hb (h.cs j hj), fun j => (hb.frozen (p := ⟨p, j, none⟩) (show p < w.heap.size from World.block_lt_of_cell? w ⟨p, 0, none⟩ h.c0)).trans (h.fr j)⟩
theorem G9.other {w : World} {p q k : Nat} {gn : Int} {m : Nat → Nat} {v : Value} (h : G9 w p gn m) (hne : q ≠ p) : G9 (w.setCell ⟨q, k, none⟩ v) p gn m := by
  have hn : ∀ j, (⟨q, k, none⟩ : Addr) ≠ ⟨p, j, none⟩ := fun j e => hne (by injection e)
  refine ⟨?_, fun j hj => ?_, fun j => ?_⟩
  · rw [World.cell?_setCell_other _ _ _ _ (hn _)]; exact h.c0
  · rw [World.cell?_setCell_other _ _ _ _ (hn _)]; exact h.cs j hj
  · simpa [go_sem] using h.fr j
theorem G9.setN {w : World} {p : Nat} {gn g' : Int} {m : Nat → Nat} (h : G9 w p gn m) : G9 (w.setCell ⟨p, 0, none⟩ (.int .i64 g')) p g' m := by
  refine ⟨World.cell?_setCell_same _ _ _ h.c0, fun j hj => ?_, fun j => ?_⟩
  · rw [World.cell?_setCell_other _ _ _ _ (by simp <;> omega)]; exact h.cs j hj
  · simpa [go_sem] using h.fr j
theorem G9.setM {w : World} {p : Nat} {gn : Int} {m : Nat → Nat} {i x : Nat} (h : G9 w p gn m) (hi : i < 8) : G9 (w.setCell ⟨p, 1 + i, none⟩ (.int .u8 x)) p gn (fun j => if j = i then x else m j) := by
  refine ⟨?_, fun j hj => ?_, fun j => ?_⟩
  · rw [World.cell?_setCell_other _ _ _ _ (by simp <;> omega)]; exact h.c0
  · by_cases e : j = i
    · subst e
      rw [World.cell?_setCell_same _ _ _ (h.cs j hj), if_pos rfl]
    · rw [World.cell?_setCell_other _ _ _ _ (by simp <;> omega), if_neg e]; exact h.cs j hj
  · simpa [go_sem] using h.fr j
/-- What build has at hand in every part of its body. -/
structure BAt (w0 w : World) (p : Nat) (a : Option Addr) (n cap : Nat) (gn : Int) (m : Nat → Nat) : Prop where
  arg : w.cell? ⟨p, 0, none⟩ = some (.slice a n cap)
  res : G9 w (p + 1) 0 (fun _ => 0)
  g : G9 w (p + 1 + 1) gn m
  bel : Below w0.heap.size w0 w
  le : w0.heap.size ≤ p
theorem BAt.below {w0 w w' : World} {p : Nat} {a : Option Addr} {n cap : Nat} {gn : Int} {m : Nat → Nat} (h : BAt w0 w p a n cap gn m) (hb : Below w.heap.size w w') : BAt w0 w' p a n cap gn m :=
  ⟨cellKeep hb h.arg, h.res.below hb, h.g.below hb, h.bel.trans (hb.mono h.bel.size), h.le⟩
theorem BAt.setN {w0 w : World} {p : Nat} {a : Option Addr} {n cap : Nat} {gn g' : Int} {m : Nat → Nat} (h : BAt w0 w p a n cap gn m) : BAt w0 (w.setCell ⟨p + 1 + 1, 0, none⟩ (.int .i64 g')) p a n cap g' m :=
  ⟨by rw [World.cell?_setCell_other _ _ _ _ (by simp <;> omega)]; exact h.arg, h.res.other (by omega), h.g.setN, h.bel.setCell (by have := h.le; simp; omega) _, h.le⟩
theorem BAt.setM {w0 w : World} {p : Nat} {a : Option Addr} {n cap i x : Nat} {gn : Int} {m : Nat → Nat} (h : BAt w0 w p a n cap gn m) (hi : i < 8) : BAt w0 (w.setCell ⟨p + 1 + 1, 1 + i, none⟩ (.int .u8 x)) p a n cap gn (fun j => if j = i then x else m j) :=
  ⟨by rw [World.cell?_setCell_other _ _ _ _ (by simp <;> omega)]; exact h.arg, h.res.other (by omega), h.g.setM hi, h.bel.setCell (by have := h.le; simp; omega) _, h.le⟩
theorem bat0 (w : World) (a : Option Addr) (n cap : Nat) :
    BAt w (((w.alloc (.cells #[.slice a n cap] 27)).alloc (.cells #[.int .i64 0, .int .u8 0, .int .u8 0, .int .u8 0, .int .u8 0, .int .u8 0, .int .u8 0, .int .u8 0, .int .u8 0] 108)).alloc (.cells #[.int .i64 0, .int .u8 0, .int .u8 0, .int .u8 0, .int .u8 0, .int .u8 0, .int .u8 0, .int .u8 0, .int .u8 0] 108)) w.heap.size a n cap 0 (fun _ => 0) := by
  have hb : Below w.heap.size w (((w.alloc (.cells #[.slice a n cap] 27)).alloc (.cells #[.int .i64 0, .int .u8 0, .int .u8 0, .int .u8 0, .int .u8 0, .int .u8 0, .int .u8 0, .int .u8 0, .int .u8 0] 108)).alloc (.cells #[.int .i64 0, .int .u8 0, .int .u8 0, .int .u8 0, .int .u8 0, .int .u8 0, .int .u8 0, .int .u8 0, .int .u8 0] 108)) := (((Below.refl _ _).alloc (Nat.le_refl _) _).alloc (by simp) _).alloc (by simp <;> omega) _
  refine ⟨by simp [go_sem], ⟨by simp [go_sem], fun j hj => ?_, fun j => by simp [go_sem]⟩, ⟨by simp [go_sem], fun j hj => ?_, fun j => by simp [go_sem]⟩, hb, Nat.le_refl _⟩
  all_goals
    rcases (by omega : j = 0 ∨ j = 1 ∨ j = 2 ∨ j = 3 ∨ j = 4 ∨ j = 5 ∨ j = 6 ∨ j = 7) with h | h | h | h | h | h | h | h <;> subst h <;> simp [go_sem]
/-- A leg's load. -/
theorem legLoad (w : World) (b o : Nat) (l : Leg) (h : ∀ j, j < 86 → w.cell? ⟨b, o + j, none⟩ = some (l.v j)) : w.rangeAt b o (legArr l).toList := by
  intro j v hv
  simp only [Array.getElem?_toList] at hv
  by_cases hj : j < 86
  · rw [legArr_at l j hj] at hv
    rw [h j hj, hv]
  · rw [Array.getElem?_eq_none (by rw [legArr_size]; omega)] at hv
    cases hv
theorem legCells (w : World) (b o : Nat) (l : Leg) (h : ∀ j, j < 86 → w.cell? ⟨b, o + j, none⟩ = some (l.v j)) : (loadCellsFrom ⟨b, o, none⟩ 0 86 #[]).run Try.prog w = .ok (legArr l) w := by
  have := run_loadCells (P := Try.prog) w ⟨b, o, none⟩ 86 l.v (fun j hj => by rw [Addr.add_mid]; exact h j hj)
  simpa [loadCells, legArr] using this
theorem firstCode_zero {L : Nat → Leg} : ∀ {k i : Nat}, (∀ j, i ≤ j → j < i + k → legCode (L j) = 0) → firstCode L k i = 0
  | 0, _, _ => rfl
  | k + 1, i, h => by
    unfold firstCode
    rw [if_pos (h i (Nat.le_refl _) (by omega))]
    exact firstCode_zero fun j h1 h2 => h j (by omega) (by omega)
theorem firstCode_at {L : Nat → Leg} {t : Nat} (ht : legCode (L t) ≠ 0) : ∀ {k i : Nat}, i ≤ t → t < i + k → (∀ j, i ≤ j → j < t → legCode (L j) = 0) → firstCode L k i = legCode (L t)
  | 0, _, _, h2, _ => by omega
  | k + 1, i, h1, h2, h => by
    unfold firstCode
    by_cases e : i = t
    · subst e; rw [if_neg ht]
    · rw [if_pos (h i (Nat.le_refl _) (by omega))]
      exact firstCode_at ht (by omega) (by omega) fun j h3 h4 => h j (by omega) h4

/-- What the second loop has entered: the set of IDs in four words, and the place of each ID. -/
structure IdsOk (L : Nat → Leg) (k : Nat) (S T : Nat → Nat) : Prop where
  lt : ∀ c, S c < 18446744073709551616
  mem : ∀ x : Nat, x < 256 → ((S (x / 64)).testBit (x % 64) = true ↔ ∃ j, j < k ∧ (L j).id = (x : Int))
  pl : ∀ j, j < k → ∀ x : Nat, (L j).id = (x : Int) → T x = j
  ne : ∀ i j, i < j → j < k → (L i).id ≠ (L j).id
theorem IdsOk.zero (L : Nat → Leg) : IdsOk L 0 (fun _ => 0) (fun _ => 0) :=
  ⟨fun _ => by decide, fun x _ => by simp, fun j h => by omega, fun i j _ h => by omega⟩
theorem IdsOk.add {L : Nat → Leg} {k d : Nat} {S T : Nat → Nat} (h : IdsOk L k S T) (hd : d < 256) (he : (L k).id = (d : Int)) (hb : (S (d / 64)).testBit (d % 64) = false) :
    IdsOk L (k + 1) (fun c => if c = d / 64 then S c ||| 2 ^ (d % 64) else S c) (fun x => if x = d then k else T x) := by
  have no : ∀ j, j < k → (L j).id ≠ (d : Int) := by
    intro j hj e
    rw [(h.mem d hd).2 ⟨j, hj, e⟩] at hb
    cases hb
  refine ⟨fun c => ?_, fun x hx => ?_, fun j hj x ex => ?_, fun i j hij hj => ?_⟩
  · show (if c = d / 64 then S c ||| 2 ^ (d % 64) else S c) < 18446744073709551616
    by_cases e : c = d / 64
    · rw [if_pos e]
      have hp : 2 ^ (d % 64) < 2 ^ 64 := Nat.pow_lt_pow_right (by omega) (by omega)
      exact Nat.or_lt_two_pow (h.lt c) hp
    · rw [if_neg e]; exact h.lt c
  · show (if x / 64 = d / 64 then S (x / 64) ||| 2 ^ (d % 64) else S (x / 64)).testBit (x % 64) = true ↔ _
    by_cases e : x = d
    · subst e
      rw [if_pos rfl, Nat.testBit_or, Nat.testBit_two_pow_self, Bool.or_true]
      exact ⟨fun _ => ⟨k, by omega, he⟩, fun _ => rfl⟩
    · have a : ((if x / 64 = d / 64 then S (x / 64) ||| 2 ^ (d % 64) else S (x / 64)).testBit (x % 64)) = (S (x / 64)).testBit (x % 64) := by
        by_cases e2 : x / 64 = d / 64
        · rw [if_pos e2, Nat.testBit_or, Nat.testBit_two_pow, decide_eq_false (by omega), Bool.or_false]
        · rw [if_neg e2]
      rw [a, h.mem x hx]
      constructor
      · rintro ⟨j, hj, ej⟩; exact ⟨j, by omega, ej⟩
      · rintro ⟨j, hj, ej⟩
        refine ⟨j, ?_, ej⟩
        rcases Nat.lt_or_ge j k with q | q
        · exact q
        · have : j = k := by omega
          subst this; rw [he] at ej; omega
  · show (if x = d then k else T x) = j
    rcases Nat.lt_or_ge j k with q | q
    · have : x ≠ d := fun e => no j q (by rw [ex, e])
      rw [if_neg this]; exact h.pl j q x ex
    · have : j = k := by omega
      subst this; rw [if_pos (by rw [he] at ex; omega)]
  · rcases Nat.lt_or_ge j k with q | q
    · exact h.ne i j hij q
    · have : j = k := by omega
      subst this; rw [he]; exact no i hij
structure IdsAt (w : World) (q r : Nat) (S T : Nat → Nat) : Prop where
  s : ∀ c, c < 4 → w.cell? ⟨q, c, none⟩ = some (.int .u64 (S c))
  sf : ∀ c, w.frozen? ⟨q, c, none⟩ = false
  t : ∀ x, x < 256 → w.cell? ⟨r, x, none⟩ = some (.int .u8 (T x))
  tf : ∀ c, w.frozen? ⟨r, c, none⟩ = false
theorem IdsAt.other {w : World} {q r p k : Nat} {S T : Nat → Nat} {v : Value} (h : IdsAt w q r S T) (h1 : p ≠ q) (h2 : p ≠ r) : IdsAt (w.setCell ⟨p, k, none⟩ v) q r S T := by
  refine ⟨fun c hc => ?_, fun c => ?_, fun x hx => ?_, fun c => ?_⟩
  · rw [World.cell?_setCell_other _ _ _ _ (by simp <;> omega)]; exact h.s c hc
  · simpa [go_sem] using h.sf c
  · rw [World.cell?_setCell_other _ _ _ _ (by simp <;> omega)]; exact h.t x hx
  · simpa [go_sem] using h.tf c
theorem IdsAt.setS {w : World} {q r c y : Nat} {S T : Nat → Nat} (h : IdsAt w q r S T) (hc : c < 4) (hne : q ≠ r) : IdsAt (w.setCell ⟨q, c, none⟩ (.int .u64 y)) q r (fun j => if j = c then y else S j) T := by
  refine ⟨fun j hj => ?_, fun j => ?_, fun x hx => ?_, fun j => ?_⟩
  · by_cases e : j = c
    · subst e
      rw [World.cell?_setCell_same _ _ _ (h.s j hj), if_pos rfl]
    · rw [World.cell?_setCell_other _ _ _ _ (by simp <;> omega), if_neg e]; exact h.s j hj
  · simpa [go_sem] using h.sf j
  · rw [World.cell?_setCell_other _ _ _ _ (by simp <;> omega)]; exact h.t x hx
  · simpa [go_sem] using h.tf j
theorem IdsAt.setT {w : World} {q r c y : Nat} {S T : Nat → Nat} (h : IdsAt w q r S T) (hc : c < 256) (hne : q ≠ r) : IdsAt (w.setCell ⟨r, c, none⟩ (.int .u8 y)) q r S (fun j => if j = c then y else T j) := by
  refine ⟨fun j hj => ?_, fun j => ?_, fun x hx => ?_, fun j => ?_⟩
  · rw [World.cell?_setCell_other _ _ _ _ (by simp <;> omega)]; exact h.s j hj
  · simpa [go_sem] using h.sf j
  · by_cases e : x = c
    · subst e
      rw [World.cell?_setCell_same _ _ _ (h.t x hx), if_pos rfl]
    · rw [World.cell?_setCell_other _ _ _ _ (by simp <;> omega), if_neg e]; exact h.t x hx
  · simpa [go_sem] using h.tf j
theorem BAt.other {w0 w : World} {p q k : Nat} {a : Option Addr} {n cap : Nat} {gn : Int} {m : Nat → Nat} {v : Value} (h : BAt w0 w p a n cap gn m) (hq : p + 1 + 1 < q) : BAt w0 (w.setCell ⟨q, k, none⟩ v) p a n cap gn m :=
  ⟨by rw [World.cell?_setCell_other _ _ _ _ (by simp <;> omega)]; exact h.arg, h.res.other (by omega), h.g.other (by omega), h.bel.setCell (by have := h.le; simp; omega) _, h.le⟩
/-- The needs of the first i legs, and the first q needs of leg i, are drawn. -/
structure NB (n : Nat) (L : Nat → Leg) (i q : Nat) (m : Nat → Nat) : Prop where
  bit : ∀ i' j, (m i').testBit j = true ↔ j < n ∧ ((i' < i ∧ ∃ k, k < (L i').nn ∧ (L i').nd k = (L j).id) ∨ (i' = i ∧ ∃ k, k < q ∧ (L i').nd k = (L j).id))
  all : ∀ i', i' < i → ∀ k, k < (L i').nn → ∃ j, j < n ∧ (L j).id = (L i').nd k
  now : ∀ k, k < q → ∃ j, j < n ∧ (L j).id = (L i).nd k
theorem NB.zero (n : Nat) (L : Nat → Leg) : NB n L 0 0 (fun _ => 0) :=
  ⟨fun i' j => by simp, fun i h => by omega, fun k h => by omega⟩
theorem NB.next {n : Nat} {L : Nat → Leg} {i : Nat} {m : Nat → Nat} (h : NB n L i (L i).nn m) : NB n L (i + 1) 0 m := by
  refine ⟨fun i' j => ?_, fun i' hi k hk => ?_, fun k hk => by omega⟩
  · rw [h.bit i' j]
    constructor
    · rintro ⟨hj, ⟨h1, h2⟩ | ⟨h1, h2⟩⟩
      · exact ⟨hj, Or.inl ⟨by omega, h2⟩⟩
      · subst h1; exact ⟨hj, Or.inl ⟨by omega, h2⟩⟩
    · rintro ⟨hj, ⟨h1, h2⟩ | ⟨h1, k, hk, _⟩⟩
      · rcases Nat.lt_or_ge i' i with q | q
        · exact ⟨hj, Or.inl ⟨q, h2⟩⟩
        · have : i' = i := by omega
          subst this; exact ⟨hj, Or.inr ⟨rfl, h2⟩⟩
      · omega
  · rcases Nat.lt_or_ge i' i with q | q
    · exact h.all i' q k hk
    · have : i' = i := by omega
      subst this; exact h.now k hk
theorem NB.step {n : Nat} {L : Nat → Leg} {i q t : Nat} {m : Nat → Nat} {S T : Nat → Nat} (h : NB n L i q m) (hi : IdsOk L n S T) (ht : t < n) (he : (L t).id = (L i).nd q) : NB n L i (q + 1) (fun j => if j = i then m i ||| 2 ^ t else m j) := by
  refine ⟨fun i' j => ?_, h.all, fun k hk => ?_⟩
  · show (if i' = i then m i ||| 2 ^ t else m i').testBit j = true ↔ _
    by_cases e : i' = i
    · subst e
      rw [if_pos rfl, Nat.testBit_or, Bool.or_eq_true, h.bit, Nat.testBit_two_pow, decide_eq_true_eq]
      constructor
      · rintro (⟨hj, ⟨h1, h2⟩ | ⟨h1, k, hk, h2⟩⟩ | rfl)
        · omega
        · exact ⟨hj, Or.inr ⟨rfl, k, by omega, h2⟩⟩
        · exact ⟨ht, Or.inr ⟨rfl, q, by omega, he.symm⟩⟩
      · rintro ⟨hj, ⟨h1, h2⟩ | ⟨h1, k, hk, h2⟩⟩
        · omega
        · rcases Nat.lt_or_ge k q with z | z
          · exact Or.inl ⟨hj, Or.inr ⟨rfl, k, z, h2⟩⟩
          · have : k = q := by omega
            subst this
            right
            rw [← he] at h2
            rcases Nat.lt_trichotomy t j with y | y | y
            · exact absurd h2 (hi.ne t j y hj)
            · exact y
            · exact absurd h2.symm (hi.ne j t y ht)
    · rw [if_neg e, h.bit]
      constructor
      · rintro ⟨hj, ⟨h1, h2⟩ | ⟨h1, h2⟩⟩
        · exact ⟨hj, Or.inl ⟨h1, h2⟩⟩
        · exact absurd h1 e
      · rintro ⟨hj, ⟨h1, h2⟩ | ⟨h1, h2⟩⟩
        · exact ⟨hj, Or.inl ⟨h1, h2⟩⟩
        · exact absurd h1 e
  · rcases Nat.lt_or_ge k q with z | z
    · exact h.now k z
    · have : k = q := by omega
      subst this; exact ⟨t, ht, he⟩
theorem NB.lt {n : Nat} {L : Nat → Leg} {i q : Nat} {m : Nat → Nat} (h : NB n L i q m) (hn : n ≤ 8) (j : Nat) : m j < 256 := by
  refine Nat.lt_pow_two_of_testBit (n := 8) (m j) fun k hk => ?_
  cases hb : (m j).testBit k
  · rfl
  · have := ((h.bit j k).1 hb).1; omega
theorem NB.done {n : Nat} {L : Nat → Leg} {m : Nat → Nat} (h : NB n L n 0 m) : NeedBits n L m := by
  intro i j
  rw [h.bit i j]
  constructor
  · rintro ⟨hj, ⟨h1, h2⟩ | ⟨h1, k, hk, _⟩⟩
    · exact ⟨h1, hj, h2⟩
    · omega
  · rintro ⟨h1, hj, h2⟩
    exact ⟨hj, Or.inl ⟨h1, h2⟩⟩
theorem BAt.drew {w0 w : World} {p : Nat} {a : Option Addr} {n cap : Nat} {gn : Int} {m : Nat → Nat} (h : BAt w0 w p a n cap gn m) : BAt w0 w.drew p a n cap gn m :=
  ⟨h.arg, ⟨h.res.c0, h.res.cs, h.res.fr⟩, ⟨h.g.c0, h.g.cs, h.g.fr⟩, h.bel.drew, h.le⟩
theorem IdsAt.drew {w : World} {q r : Nat} {S T : Nat → Nat} (h : IdsAt w q r S T) : IdsAt w.drew q r S T := ⟨h.s, h.sf, h.t, h.tf⟩
theorem IdsAt.cong {w : World} {q r : Nat} {S S' T : Nat → Nat} (h : IdsAt w q r S T) (e : ∀ c, S c = S' c) : IdsAt w q r S' T := by
  have : S = S' := funext e
  rw [← this]; exact h
theorem bCode65 {n : Nat} {L : Nat → Leg} (h0 : ¬ n = 0) (h8 : ¬ n > 8) (hk : firstCode L n 0 = 0) (h : ∃ i j, i < j ∧ j < n ∧ (L i).id = (L j).id) : bCode n L = 65 := by
  unfold bCode; rw [if_neg h0, if_neg h8, if_neg (by simp [hk]), if_pos h]
theorem bCode66 {n : Nat} {L : Nat → Leg} {S T : Nat → Nat} (h0 : ¬ n = 0) (h8 : ¬ n > 8) (hk : firstCode L n 0 = 0) (hi : IdsOk L n S T) (h : ∃ i k, i < n ∧ k < (L i).nn ∧ ∀ j, j < n → (L j).id ≠ (L i).nd k) : bCode n L = 66 := by
  unfold bCode; rw [if_neg h0, if_neg h8, if_neg (by simp [hk]), if_neg (by rintro ⟨i, j, h1, h2, h3⟩; exact hi.ne i j h1 h2 h3), if_pos h]
theorem bCode0 {n : Nat} {L : Nat → Leg} {S T m : Nat → Nat} (h0 : ¬ n = 0) (h8 : ¬ n > 8) (hk : firstCode L n 0 = 0) (hi : IdsOk L n S T) (h : NB n L n 0 m) : bCode n L = 0 := by
  unfold bCode; rw [if_neg h0, if_neg h8, if_neg (by simp [hk]), if_neg (by rintro ⟨i, j, h1, h2, h3⟩; exact hi.ne i j h1 h2 h3), if_neg ?_]
  rintro ⟨i, k, h1, h2, h3⟩
  obtain ⟨j, hj, ej⟩ := h.all i h1 k h2
  exact h3 j hj ej
theorem or_pow8 (x m : Nat) (hx : x < 256) (hm : m < 8) : bits BinOp.or .u8 (x : Int) (IntKind.u8.wrap (2 ^ m)) = ((x ||| 2 ^ m : Nat) : Int) := by
  have hp : 2 ^ m < 256 := Nat.lt_of_lt_of_eq (Nat.pow_lt_pow_right (by omega) hm) rfl
  have e : (2 : Int) ^ m = ((2 ^ m : Nat) : Int) := by simp
  rw [e, IntWalk.u8_in _ ⟨Int.natCast_nonneg _, by omega⟩]
  exact u8_or_nat _ _ hx hp
theorem or_pow8' (x m : Nat) (hx : x < 256) (hm : m < 8) : bits BinOp.or .u8 (x : Int) (2 ^ m % 256) = ((x ||| 2 ^ m : Nat) : Int) := by
  have hp : 2 ^ m < 256 := Nat.lt_of_lt_of_eq (Nat.pow_lt_pow_right (by omega) hm) rfl
  have e : (2 : Int) ^ m % 256 = ((2 ^ m : Nat) : Int) := by
    rw [show (2 : Int) ^ m = ((2 ^ m : Nat) : Int) by simp]
    exact Int.emod_eq_of_lt (Int.natCast_nonneg _) (Int.ofNat_lt.2 hp)
  rw [e]
  exact u8_or_nat _ _ hx hp
theorem Try.zeros140 : Try.zeroCells140 = Array.replicate 256 (.int .u8 0) := by kernel_rfl
theorem ids0 (w : World) : IdsAt ((w.alloc (.cells #[.int .u64 0, .int .u64 0, .int .u64 0, .int .u64 0] 139)).alloc (.cells Try.zeroCells140 140)) w.heap.size (w.heap.size + 1) (fun _ => 0) (fun _ => 0) := by
  refine ⟨fun c hc => ?_, fun c => by simp [go_sem], fun x hx => ?_, fun c => by simp [go_sem]⟩
  · rcases (by omega : c = 0 ∨ c = 1 ∨ c = 2 ∨ c = 3) with h | h | h | h <;> subst h <;> simp [go_sem]
  · rw [Try.zeros140]
    simp [go_sem, hx]
theorem below2 (w : World) (o o' : Obj) : Below w.heap.size w ((w.alloc o).alloc o') :=
  ((Below.refl _ _).alloc (Nat.le_refl _) _).alloc (by simp) _
end Go.Proofs.Qxb6500784a
