import Derived.Test.Qxb6500773aGreatNa
import Derived.Test.Qxb6500773aGreatMz
namespace Go.Proofs.Qxb6500773aGreat
open Go.RowKit

/-! ### The model's bench in memory -/
abbrev MQ := World → (Nat → Prop) → Value → (Nat → Prop) → Prop
def FrQ (q : MQ) : Prop := ∀ w w' D D' T v S, q w D v S → Ex T w w' → (∀ k, S k → ¬ T k) → (∀ g, T g → D g ∨ w.heap.size ≤ g) → (∀ g, D' g → D g ∨ w.heap.size ≤ g) → q w' D' v S
def FMq (B : Nat) (F : List (List Int)) : MQ := fun w D v S => ∃ a n c V, v = .slice a n c ∧ F.length = n ∧ w.ownsRow B 30 1 v n V ∧ RG .i64 e1 t1 w D V F ∧ ∀ k, S k ↔ v.ownBlock = some k
def PMq (B : Nat) (P : List (Bool × List Int)) : MQ := fun w D v S => ∃ a n c V, v = .slice a n c ∧ P.length = n ∧ w.ownsRow B 136 2 v n V ∧ RG .i64 e2 t2 w D V P ∧ ∀ k, S k ↔ v.ownBlock = some k
def AMq (A : List Int) : MQ := fun w D v S => ∃ a c, v = .slice a A.length c ∧ IK .i64 w a A ∧ A.length ≤ c ∧ c ≤ maxLen ∧ (∀ g off, a = some ⟨g, off, none⟩ → g < w.heap.size ∧ ¬ D g) ∧ ∀ k, ¬ S k
theorem fr_F (B : Nat) (F : List (List Int)) : FrQ (FMq B F) := by
  rintro w w' D D' T v S ⟨a, n, c, V, h0, h1, h2, h3, h4⟩ e hd hT hD
  exact ⟨a, n, c, V, h0, h1, own_kept h2 e (fun k hk => hd k ((h4 k).2 hk)), h3.move e hT hD, h4⟩
theorem fr_P (B : Nat) (P : List (Bool × List Int)) : FrQ (PMq B P) := by
  rintro w w' D D' T v S ⟨a, n, c, V, h0, h1, h2, h3, h4⟩ e hd hT hD
  exact ⟨a, n, c, V, h0, h1, own_kept h2 e (fun k hk => hd k ((h4 k).2 hk)), h3.move e hT hD, h4⟩
theorem fr_A (A : List Int) : FrQ (AMq A) := by
  rintro w w' D D' T v S ⟨a, c, h0, h1, h2, h3, h4, h5⟩ e hd hT hD
  refine ⟨a, c, h0, h1.keep e (fun g off ea z => ?_), h2, h3, fun g off ea => ⟨Nat.lt_of_lt_of_le (h4 g off ea).1 e.size, fun z => ?_⟩, h5⟩
  · rcases hT g z with y | y
    · exact (h4 g off ea).2 y
    · have := (h4 g off ea).1; omega
  · rcases hD g z with y | y
    · exact (h4 g off ea).2 y
    · have := (h4 g off ea).1; omega
def cn : Nat → Nat
  | 0 => 1
  | 1 => 3
  | 2 => 5
  | 3 => 7
  | 4 => 2
  | _ => 6
theorem cn_inj {i j : Nat} (hi : i < 6) (hj : j < 6) (h : cn i = cn j) : i = j := by
  have : ∀ i j : Fin 6, cn i.val = cn j.val → i = j := by decide
  have := this ⟨i, hi⟩ ⟨j, hj⟩ h
  injection this
theorem cn_ne {i : Nat} (hi : i < 6) : cn i ≠ 0 ∧ cn i ≠ 4 := by
  have : ∀ i : Fin 6, cn i.val ≠ 0 ∧ cn i.val ≠ 4 := by decide
  exact this ⟨i, hi⟩
/-- the blocks in which no list of numbers lies -/
def DN (B : Nat) (X : Nat → Prop) (m : Nat) (S : Nat → Nat → Prop) (j : Nat) : Prop := j < B ∨ X j ∨ j = m ∨ ∃ i, i < 6 ∧ S i j
structure MN (w : World) (B m : Nat) (X : Nat → Prop) (V : Nat → Value) (S : Nat → Nat → Prop) (Q : Nat → MQ) (nv sv : Int) : Prop where
  c : ∀ i, i < 6 → w.cell? ⟨m, cn i, none⟩ = some (V i)
  c0 : w.cell? ⟨m, 0, none⟩ = some (.int .i64 nv)
  c4 : w.cell? ⟨m, 4, none⟩ = some (.int .i64 sv)
  fz : ∀ j, w.frozen? ⟨m, j, none⟩ = false
  ob : ∀ i, i < 6 → Q i w (DN B X m S) (V i) (S i)
  rg : ∀ i, i < 6 → ∀ k, S i k → B ≤ k ∧ k < w.heap.size
  dj : ∀ i j, i < 6 → j < 6 → i ≠ j → ∀ k, S i k → ¬ S j k
  mr : ∀ i, i < 6 → ¬ S i m
  mB : B ≤ m
  dx : ∀ i, i < 6 → ∀ k, S i k → ¬ X k
  mx : ¬ X m
  fr : ∀ i, i < 6 → FrQ (Q i)
section
variable {w w' : World} {B m : Nat} {X X' : Nat → Prop} {V : Nat → Value} {S : Nat → Nat → Prop} {Q : Nat → MQ} {nv sv : Int}
theorem MN.lt (h : MN w B m X V S Q nv sv) : m < w.heap.size := World.block_lt_of_cell? _ _ h.c0
theorem MN.ext (h : MN w B m X V S Q nv sv) {T : Nat → Prop} (e : Ex T w w') (hT : ∀ g, T g → X g ∨ g < B ∨ w.heap.size ≤ g) (hX : ∀ g, X' g → X g ∨ w.heap.size ≤ g) : MN w' B m X' V S Q nv sv := by
  have hm : ¬ T m := fun z => by rcases hT m z with y | y | y; exact h.mx y; have := h.mB; omega; have := h.lt; omega
  have hS : ∀ i, i < 6 → ∀ k, S i k → ¬ T k := fun i hi k hk z => by
    have := h.rg i hi k hk
    rcases hT k z with y | y | y
    · exact h.dx i hi k hk y
    · omega
    · omega
  refine ⟨fun i hi => e.cell hm (h.c i hi), e.cell hm h.c0, e.cell hm h.c4, fun j => (e.frozen hm h.lt).trans (h.fz j), fun i hi => h.fr i hi _ _ _ _ _ _ _ (h.ob i hi) e (hS i hi) (fun g z => ?_) (fun g z => ?_), fun i hi k hk => ⟨(h.rg i hi k hk).1, Nat.lt_of_lt_of_le (h.rg i hi k hk).2 e.size⟩, h.dj, h.mr, h.mB, fun i hi k hk z => ?_, fun z => ?_, h.fr⟩
  · rcases hT g z with y | y | y
    · exact .inl (.inr (.inl y))
    · exact .inl (.inl y)
    · exact .inr y
  · rcases z with z | z | z | z
    · exact .inl (.inl z)
    · rcases hX g z with y | y
      · exact .inl (.inr (.inl y))
      · exact .inr y
    · exact .inl (.inr (.inr (.inl z)))
    · exact .inl (.inr (.inr (.inr z)))
  · rcases hX k z with y | y
    · exact h.dx i hi k hk y
    · have := (h.rg i hi k hk).2; omega
  · rcases hX m z with y | y
    · exact h.mx y
    · have := h.lt; omega
theorem MN.keep (h : MN w B m X V S Q nv sv) (e : Ex (fun _ => False) w w') : MN w' B m X V S Q nv sv := h.ext e (fun _ z => z.elim) (fun _ z => .inl z)
theorem set_oth2 {w : World} {o j a i : Nat} {u x : Value} (h : w.cell? ⟨a, i, none⟩ = some x) (hn : i ≠ j) : (w.setCell ⟨o, j, none⟩ u).cell? ⟨a, i, none⟩ = some x := set_oth h (.inr hn)
/-- the objects do not see a store into the bench -/
theorem MN.obs (h : MN w B m X V S Q nv sv) (j : Nat) (u : Value) : ∀ i, i < 6 → Q i (w.setCell ⟨m, j, none⟩ u) (DN B X m S) (V i) (S i) := fun i hi => by
  have e : Ex (fun k => k = m) w (w.setCell ⟨m, j, none⟩ u) := (Ex.refl (fun k => k = m) w).set (p := m) rfl _
  exact h.fr i hi _ _ _ _ _ _ _ (h.ob i hi) e (fun k hk z => h.mr i hi (by rw [← show k = m from z]; exact hk)) (fun g z => .inl (.inr (.inr (.inl z)))) (fun g z => .inl z)
theorem MN.num0 (h : MN w B m X V S Q nv sv) (x : Int) : MN (w.setCell ⟨m, 0, none⟩ (.int .i64 x)) B m X V S Q x sv :=
  ⟨fun i hi => set_oth2 (h.c i hi) (cn_ne hi).1, World.cell?_setCell_same _ _ _ h.c0, set_oth2 h.c4 (by decide), fun j => by rw [set_frozen]; exact h.fz j, h.obs 0 _, fun i hi k hk => ⟨(h.rg i hi k hk).1, by simpa using (h.rg i hi k hk).2⟩, h.dj, h.mr, h.mB, h.dx, h.mx, h.fr⟩
theorem MN.num4 (h : MN w B m X V S Q nv sv) (x : Int) : MN (w.setCell ⟨m, 4, none⟩ (.int .i64 x)) B m X V S Q nv x :=
  ⟨fun i hi => set_oth2 (h.c i hi) (cn_ne hi).2, set_oth2 h.c0 (by decide), World.cell?_setCell_same _ _ _ h.c4, fun j => by rw [set_frozen]; exact h.fz j, h.obs 4 _, fun i hi k hk => ⟨(h.rg i hi k hk).1, by simpa using (h.rg i hi k hk).2⟩, h.dj, h.mr, h.mB, h.dx, h.mx, h.fr⟩
/-- the object i is replaced, or turns in its place; then its cell is written -/
theorem MN.put (h : MN w B m X V S Q nv sv) {i : Nat} (hi : i < 6) (e : Ex (S i) w w') {q' : MQ} {v' : Value} {S' : Nat → Prop} (hq : q' w' (DN B X m (up S i S')) v' S') (hf : FrQ q') (hs : ∀ k, S' k → S i k ∨ w.heap.size ≤ k) (hl : ∀ k, S' k → B ≤ k ∧ k < w'.heap.size) (hxl : ∀ k, X k → k < w.heap.size) : MN (w'.setCell ⟨m, cn i, none⟩ v') B m X (up V i v') (up S i S') (up Q i q') nv sv := by
  have hm : ¬ S i m := h.mr i hi
  have hmS : ¬ S' m := fun z => by
    rcases hs m z with y | y
    · exact hm y
    · have := h.lt; omega
  have e2 : Ex (fun k => k = m) w' (w'.setCell ⟨m, cn i, none⟩ v') := (Ex.refl (fun k => k = m) w').set (p := m) rfl _
  have hD : ∀ g, DN B X m (up S i S') g → DN B X m S g ∨ w.heap.size ≤ g := fun g z => by
    rcases z with z | z | z | ⟨j, hj, z⟩
    · exact .inl (.inl z)
    · exact .inl (.inr (.inl z))
    · exact .inl (.inr (.inr (.inl z)))
    · by_cases y : j = i
      · subst y
        rw [up_at] at z
        rcases hs g z with x | x
        · exact .inl (.inr (.inr (.inr ⟨j, hj, x⟩)))
        · exact .inr x
      · rw [up_ne _ _ y] at z
        exact .inl (.inr (.inr (.inr ⟨j, hj, z⟩)))
  have hrun : ∀ j, j < 6 → (up S i S') j m → False := fun j hj z => by
    by_cases y : j = i
    · subst y; rw [up_at] at z; exact hmS z
    · rw [up_ne _ _ y] at z; exact h.mr j hj z
  refine ⟨fun j hj => ?_, set_oth2 (e.cell hm h.c0) (fun z => (cn_ne hi).1 z.symm), set_oth2 (e.cell hm h.c4) (fun z => (cn_ne hi).2 z.symm), fun j => by rw [set_frozen]; exact (e.frozen hm h.lt).trans (h.fz j), fun j hj => ?_, fun j hj k hk => ?_, fun a b ha hb hab k hk hk' => ?_, fun j hj z => hrun j hj z, h.mB, fun j hj k hk z => ?_, h.mx, fun j hj => ?_⟩
  · by_cases y : j = i
    · subst y; rw [up_at]; exact World.cell?_setCell_same _ _ _ (e.cell hm (h.c j hj))
    · rw [up_ne _ _ y]; exact set_oth2 (e.cell hm (h.c j hj)) (fun z => y (cn_inj hj hi z))
  · by_cases y : j = i
    · subst y
      rw [up_at, up_at, up_at]
      exact hf _ _ _ _ _ _ _ hq e2 (fun k hk z => hmS (by rw [← show k = m from z]; exact hk)) (fun g z => .inl (.inr (.inr (.inl z)))) (fun g z => .inl z)
    · rw [up_ne _ _ y, up_ne _ _ y, up_ne _ _ y]
      have h1 := h.fr j hj _ _ _ (DN B X m (up S i S')) _ _ _ (h.ob j hj) e (fun k hk z => h.dj j i hj hi y k hk z) (fun g z => .inl (.inr (.inr (.inr ⟨i, hi, z⟩)))) hD
      exact h.fr j hj _ _ _ _ _ _ _ h1 e2 (fun k hk z => h.mr j hj (by rw [← show k = m from z]; exact hk)) (fun g z => .inl (.inr (.inr (.inl z)))) (fun g z => .inl z)
  · have hsz : (w'.setCell ⟨m, cn i, none⟩ v').heap.size = w'.heap.size := by simp
    rw [hsz]
    by_cases y : j = i
    · subst y; rw [up_at] at hk; exact hl k hk
    · rw [up_ne _ _ y] at hk; exact ⟨(h.rg j hj k hk).1, Nat.lt_of_lt_of_le (h.rg j hj k hk).2 e.size⟩
  · by_cases ya : a = i
    · subst ya
      rw [up_at] at hk
      rw [up_ne _ _ (fun z => hab z.symm)] at hk'
      rcases hs k hk with x | x
      · exact h.dj a b ha hb hab k x hk'
      · have := (h.rg b hb k hk').2; omega
    · rw [up_ne _ _ ya] at hk
      by_cases yb : b = i
      · subst yb
        rw [up_at] at hk'
        rcases hs k hk' with x | x
        · exact h.dj a b ha hb hab k hk x
        · have := (h.rg a ha k hk).2; omega
      · rw [up_ne _ _ yb] at hk'
        exact h.dj a b ha hb hab k hk hk'
  · by_cases y : j = i
    · subst y
      rw [up_at] at hk
      rcases hs k hk with x | x
      · exact h.dx j hj k x z
      · have := hxl k z; omega
    · rw [up_ne _ _ y] at hk
      exact h.dx j hj k hk z
  · by_cases y : j = i
    · subst y; rw [up_at]; exact hf
    · rw [up_ne _ _ y]; exact h.fr j hj
theorem MN.re {Q' : Nat → MQ} (h : MN w B m X V S Q nv sv) (hq : ∀ i, i < 6 → Q i = Q' i) : MN w B m X V S Q' nv sv :=
  ⟨h.c, h.c0, h.c4, h.fz, fun i hi => by rw [← hq i hi]; exact h.ob i hi, h.rg, h.dj, h.mr, h.mB, h.dx, h.mx, fun i hi => by rw [← hq i hi]; exact h.fr i hi⟩
end
/-! ### The plain state of the model's bench -/
structure Mst where
  nv : Int
  F : List (List Int)
  A : List Int
  P : List (Bool × List Int)
  sv : Int
  SF : List (List Int)
  SA : List Int
  SP : List (Bool × List Int)
def QM (B : Nat) (s : Mst) : Nat → MQ
  | 0 => FMq B s.F
  | 1 => PMq B s.P
  | 2 => FMq B s.SF
  | 3 => PMq B s.SP
  | 4 => AMq s.A
  | _ => AMq s.SA
/-- a new formula -/
theorem lp_fm {w w' : World} {B : Nat} {F : List (List Int)} {v : Value} {n : Nat} {D : Nat → Prop} (h : LP .i64 e1 t1 1 30 w.heap.size w' F v n) (hB : B ≤ w.heap.size) (hD : ∀ g, D g → v.ownBlock = some g ∨ g < w.heap.size ∨ w'.heap.size ≤ g) : FMq B F w' D v (fun k => v.ownBlock = some k) := by
  obtain ⟨V, h1, h2⟩ := h.ro
  obtain ⟨a, c, hv⟩ := own_form h1
  exact ⟨a, n, c, V, hv, h.hn, h1.mono hB, h2.move (Ex.refl (fun _ => False) w') (fun _ z => z.elim) (fun g z => by
    rcases hD g z with y | y | y
    · exact .inl (.inl y)
    · exact .inl (.inr y)
    · exact .inr y), fun k => Iff.rfl⟩
theorem lp_pm {w w' : World} {B : Nat} {F : List (Bool × List Int)} {v : Value} {n : Nat} {D : Nat → Prop} (h : LP .i64 e2 t2 2 136 w.heap.size w' F v n) (hB : B ≤ w.heap.size) (hD : ∀ g, D g → v.ownBlock = some g ∨ g < w.heap.size ∨ w'.heap.size ≤ g) : PMq B F w' D v (fun k => v.ownBlock = some k) := by
  obtain ⟨V, h1, h2⟩ := h.ro
  obtain ⟨a, c, hv⟩ := own_form h1
  exact ⟨a, n, c, V, hv, h.hn, h1.mono hB, h2.move (Ex.refl (fun _ => False) w') (fun _ z => z.elim) (fun g z => by
    rcases hD g z with y | y | y
    · exact .inl (.inl y)
    · exact .inl (.inr y)
    · exact .inr y), fun k => Iff.rfl⟩
/-- a new list -/
theorem row_am {w w' : World} {A : List Int} {a : Option Addr} {c : Nat} {D : Nat → Prop} (h : w'.ownsRow w.heap.size 3 1 (.slice a A.length c) A.length (row64 A)) (hD : ∀ g, D g → g < w.heap.size ∨ w'.heap.size ≤ g) : AMq A w' D (.slice a A.length c) (fun _ => False) :=
  ⟨a, c, rfl, rowk_ik h, (row_cap h).1, (row_cap h).2, fun g off ea => by
    have hl := h.lt g (own_addr h ea).1
    exact ⟨hl.2, fun z => by rcases hD g z with y | y <;> omega⟩, fun _ z => z⟩
/-- nothing -/
theorem nil_fm (w : World) (B : Nat) (D : Nat → Prop) : FMq B [] w D (.slice none 0 0) (fun _ => False) := ⟨none, 0, 0, [], rfl, rfl, ⟨by simp, .inl ⟨rfl, rfl⟩⟩, .nil, fun k => by simp [Value.ownBlock]⟩
theorem nil_pm (w : World) (B : Nat) (D : Nat → Prop) : PMq B [] w D (.slice none 0 0) (fun _ => False) := ⟨none, 0, 0, [], rfl, rfl, ⟨by simp, .inl ⟨rfl, rfl⟩⟩, .nil, fun k => by simp [Value.ownBlock]⟩
theorem nil_am (w : World) (D : Nat → Prop) : AMq [] w D (.slice none 0 0) (fun _ => False) := ⟨none, 0, rfl, fun j x h => by simp at h, Nat.le_refl _, Nat.zero_le _, (fun g off z => by injection z), fun _ z => z⟩
/-- what the model's functions want -/
theorem FMq.fl {B : Nat} {F : List (List Int)} {w : World} {D : Nat → Prop} {v : Value} {S : Nat → Prop} (h : FMq B F w D v S) : ∃ a c, v = .slice a F.length c ∧ FL w a F ∧ F.length ≤ c ∧ c ≤ maxLen := by
  obtain ⟨a, n, c, V, h0, h1, h2, h3, h4⟩ := h
  subst h0 h1
  refine ⟨a, c, rfl, fun j C hj => ?_, (row_cap h2).1, (row_cap h2).2⟩
  obtain ⟨a1, c1, q1, q2, q3, q4, _⟩ := h3.at (s := 1) (fun _ _ => rfl) hj
  have hlt : j < F.length := (List.getElem?_eq_some_iff.1 hj).1
  obtain ⟨g, cv, ev⟩ := own_some h2 (by omega)
  injection ev with ev _ ev2
  subst ev ev2
  have := h2.cells (g := g) rfl (j * 1 + 0) (.slice a1 C.length c1) (by rw [q1 0 (by decide)]; rfl)
  rw [Addr.add_mid, Nat.zero_add, Nat.mul_one, Nat.add_zero] at this
  exact ⟨g, 0, a1, c1, rfl, by rw [Nat.zero_add]; exact this, q2.il, q3, q4⟩
theorem PMq.sl {B : Nat} {F : List (Bool × List Int)} {w : World} {D : Nat → Prop} {v : Value} {S : Nat → Prop} (h : PMq B F w D v S) : ∃ a c, v = .slice a F.length c ∧ SL w a F ∧ F.length ≤ c ∧ c ≤ maxLen := by
  obtain ⟨a, n, c, V, h0, h1, h2, h3, h4⟩ := h
  subst h0 h1
  refine ⟨a, c, rfl, fun j C hj => ?_, (row_cap h2).1, (row_cap h2).2⟩
  obtain ⟨a1, c1, q1, q2, q3, q4, _⟩ := h3.at (s := 2) (fun _ _ => rfl) hj
  have hlt : j < F.length := (List.getElem?_eq_some_iff.1 hj).1
  obtain ⟨g, cv, ev⟩ := own_some h2 (by omega)
  injection ev with ev _ ev2
  subst ev ev2
  have z0 := h2.cells (g := g) rfl (j * 2 + 0) (.bool C.1) (by rw [q1 0 (by decide)]; rfl)
  have z1 := h2.cells (g := g) rfl (j * 2 + 1) (.slice a1 C.2.length c1) (by rw [q1 1 (by decide)]; rfl)
  rw [Addr.add_mid, Nat.zero_add] at z0 z1
  rw [Nat.add_zero] at z0
  exact ⟨g, 0, a1, c1, rfl, by rw [Nat.zero_add]; exact z0, by rw [Nat.zero_add]; exact z1, q2.il, q3, q4⟩
theorem AMq.il {A : List Int} {w : World} {D : Nat → Prop} {v : Value} {S : Nat → Prop} (h : AMq A w D v S) : ∃ a c, v = .slice a A.length c ∧ IL w a A ∧ A.length ≤ c ∧ c ≤ maxLen := by
  obtain ⟨a, c, h0, h1, h2, h3, _⟩ := h
  exact ⟨a, c, h0, h1.il, h2, h3⟩
end Go.Proofs.Qxb6500773aGreat
