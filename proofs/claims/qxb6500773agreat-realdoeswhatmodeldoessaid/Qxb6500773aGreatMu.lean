import Derived.Test.Qxb6500773aGreatMt
namespace Go.Proofs.Qxb6500773aGreat
open Go.RowKit

/-! ### Rows whose elements hold one slice each -/
/-- V is the row of the elements F: element x with its slice v has the cells enc x v; the slices lie over the lists txt x, in no block of D -/
def RG {α : Type} (k : IntKind) (enc : α → Value → List Value) (txt : α → List Int) (w : World) (D : Nat → Prop) (V : List Value) (F : List α) : Prop :=
  ∃ vs : List Value, vs.length = F.length ∧ V = (F.zip vs).flatMap (fun p => enc p.1 p.2) ∧ ∀ (j : Nat) (x : α), F[j]? = some x → ∃ a c, vs[j]? = some (.slice a (txt x).length c) ∧ IK k w a (txt x) ∧ (txt x).length ≤ c ∧ c ≤ maxLen ∧ ∀ g off, a = some ⟨g, off, none⟩ → g < w.heap.size ∧ ¬ D g
section
variable {α : Type} {k : IntKind} {enc : α → Value → List Value} {txt : α → List Int} {w w' : World} {D D' S : Nat → Prop} {V : List Value} {F : List α}
theorem RG.nil : RG k enc txt w D [] [] := ⟨[], rfl, rfl, fun j x h => by simp at h⟩
theorem RG.move (h : RG k enc txt w D V F) (e : Ex S w w') (hs : ∀ g, S g → D g ∨ w.heap.size ≤ g) (hd : ∀ g, D' g → D g ∨ w.heap.size ≤ g) : RG k enc txt w' D' V F := by
  obtain ⟨vs, h1, h2, h3⟩ := h
  refine ⟨vs, h1, h2, fun j x hj => ?_⟩
  obtain ⟨a, c, hv, hi, hc, hm, ha⟩ := h3 j x hj
  refine ⟨a, c, hv, hi.keep e (fun g off ea hg => ?_), hc, hm, fun g off ea => ⟨Nat.lt_of_lt_of_le (ha g off ea).1 e.size, fun z => ?_⟩⟩
  · rcases hs g hg with z | z
    · exact (ha g off ea).2 z
    · have := (ha g off ea).1; omega
  · rcases hd g z with z | z
    · exact (ha g off ea).2 z
    · have := (ha g off ea).1; omega
theorem RG.keep (h : RG k enc txt w D V F) (e : Ex (fun _ => False) w w') : RG k enc txt w' D V F := h.move e (fun _ z => z.elim) (fun _ z => .inl z)
theorem RG.push (h : RG k enc txt w D V F) (e : Ex S w w') (hs : ∀ g, S g → D g ∨ w.heap.size ≤ g) (hd : ∀ g, D' g → D g ∨ w.heap.size ≤ g) {x : α} {a : Option Addr} {c : Nat} (hi : IK k w a (txt x)) (hc : (txt x).length ≤ c) (hm : c ≤ maxLen) (ha : ∀ g off, a = some ⟨g, off, none⟩ → g < w.heap.size ∧ ¬ D g) : RG k enc txt w' D' (V ++ enc x (.slice a (txt x).length c)) (F ++ [x]) := by
  obtain ⟨vs, h1, h2, h3⟩ := h.move e hs hd
  refine ⟨vs ++ [.slice a (txt x).length c], by simp [h1], ?_, fun j y hj => ?_⟩
  · rw [h2, List.zip_append h1.symm, List.flatMap_append]
    simp
  · by_cases hlt : j < F.length
    · rw [List.getElem?_append_left hlt] at hj
      rw [List.getElem?_append_left (by rw [h1]; exact hlt)]
      exact h3 j y hj
    · rw [List.getElem?_append_right (by omega)] at hj
      have hj0 : j - F.length = 0 := by
        rcases Nat.eq_zero_or_pos (j - F.length) with z | z
        · exact z
        · rw [List.getElem?_eq_none (by simp; omega)] at hj; cases hj
      rw [hj0] at hj
      simp at hj
      subst hj
      rw [List.getElem?_append_right (by rw [h1]; omega), h1, hj0]
      refine ⟨a, c, rfl, hi.keep e (fun g off ea hg => ?_), hc, hm, fun g off ea => ⟨Nat.lt_of_lt_of_le (ha g off ea).1 e.size, fun z => ?_⟩⟩
      · rcases hs g hg with z | z
        · exact (ha g off ea).2 z
        · have := (ha g off ea).1; omega
      · rcases hd g z with z | z
        · exact (ha g off ea).2 z
        · have := (ha g off ea).1; omega
/-- the cells of the element j -/
theorem RG.at (h : RG k enc txt w D V F) {s : Nat} (hs : ∀ x v, (enc x v).length = s) {j : Nat} {x : α} (hj : F[j]? = some x) : ∃ a c, (∀ r, r < s → V[j * s + r]? = (enc x (.slice a (txt x).length c))[r]?) ∧ IK k w a (txt x) ∧ (txt x).length ≤ c ∧ c ≤ maxLen ∧ ∀ g off, a = some ⟨g, off, none⟩ → g < w.heap.size ∧ ¬ D g := by
  obtain ⟨vs, h1, h2, h3⟩ := h
  obtain ⟨a, c, hv, hr⟩ := h3 j x hj
  refine ⟨a, c, fun r hr => ?_, hr⟩
  rw [h2]
  have hz : (F.zip vs)[j]? = some (x, .slice a (txt x).length c) := by rw [List.getElem?_zip_eq_some]; exact ⟨hj, hv⟩
  exact flat_at (fun p : α × Value => enc p.1 p.2) s (fun p => hs p.1 p.2) (F.zip vs) j _ hz r hr
theorem RG.len (h : RG k enc txt w D V F) {s : Nat} (hs : ∀ x v, (enc x v).length = s) : V.length = F.length * s := by
  obtain ⟨vs, h1, h2, -⟩ := h
  rw [h2, flat_len (fun p : α × Value => enc p.1 p.2) s (fun p => hs p.1 p.2), List.length_zip, h1, Nat.min_self]
end
/-- an owned row of such elements -/
structure LP {α : Type} (k : IntKind) (enc : α → Value → List Value) (txt : α → List Int) (s T B : Nat) (w : World) (F : List α) (v : Value) (n : Nat) : Prop where
  hn : F.length = n
  ro : ∃ V, w.ownsRow B T s v n V ∧ RG k enc txt w (fun j => v.ownBlock = some j ∨ j < B) V F
/-- .. since w0 only the blocks Z have turned; the row lies in them or is new; neither it nor what it holds lies in a block of X -/
structure LQ {α : Type} (k : IntKind) (enc : α → Value → List Value) (txt : α → List Int) (s T B : Nat) (X Z : Nat → Prop) (w0 w : World) (F : List α) (v : Value) (n : Nat) : Prop where
  hn : F.length = n
  ro : ∃ V, w.ownsRow B T s v n V ∧ RG k enc txt w (fun j => v.ownBlock = some j ∨ X j) V F
  ex : Ex Z w0 w
  zv : ∀ j, v.ownBlock = some j → Z j ∨ w0.heap.size ≤ j
  xv : ∀ j, v.ownBlock = some j → ¬ X j
  xb : ∀ j, X j → j < w0.heap.size
  bs : B ≤ w0.heap.size
/-- .. and a row of numbers that is being built beside it -/
structure LO {α : Type} (k : IntKind) (enc : α → Value → List Value) (txt : α → List Int) (s T t B : Nat) (X Z : Nat → Prop) (w0 w : World) (F : List α) (v : Value) (n : Nat) (C : List Int) (u : Value) (m : Nat) : Prop where
  hn : F.length = n
  hm : C.length = m
  ro : ∃ V, w.ownsRow B T s v n V ∧ RG k enc txt w (fun j => v.ownBlock = some j ∨ u.ownBlock = some j ∨ X j) V F
  rc : w.ownsRow B t 1 u m (C.map (Value.int k))
  dj : ∀ j, v.ownBlock = some j → ¬ u.ownBlock = some j
  ex : Ex Z w0 w
  zv : ∀ j, v.ownBlock = some j → Z j ∨ w0.heap.size ≤ j
  zu : ∀ j, u.ownBlock = some j → Z j ∨ w0.heap.size ≤ j
  xv : ∀ j, v.ownBlock = some j → ¬ X j
  xu : ∀ j, u.ownBlock = some j → ¬ X j
  xb : ∀ j, X j → j < w0.heap.size
  bs : B ≤ w0.heap.size
theorem own_zr (w : World) (B t s : Nat) (hB : B ≤ w.heap.size) : (w.alloc (.cells #[] t)).ownsRow B t s (.slice (some ⟨w.heap.size, 0, none⟩) 0 0) 0 [] := World.ownsRow_lit (base := B) (e := t) (size := s) w #[] 0 hB (by unfold maxLen; omega) (by simp)
theorem rowk_ik {w : World} {B t n : Nat} {k : IntKind} {a : Option Addr} {c : Nat} {C : List Int} (h : w.ownsRow B t 1 (.slice a n c) n (C.map (Value.int k))) : IK k w a C := fun j x hx => by
  obtain ⟨g, c', e, hc, -⟩ := row_cell h (i := j) (u := .int k x) (by rw [List.getElem?_map, hx]; rfl)
  cases e
  exact ⟨g, 0, rfl, by rw [Nat.zero_add]; exact hc⟩
theorem row_cap {w : World} {B t s n c : Nat} {a : Option Addr} {xs : List Value} (h : w.ownsRow B t s (.slice a n c) n xs) : n ≤ c ∧ c ≤ maxLen := by
  obtain ⟨_, h2⟩ := h
  rcases h2 with ⟨h2, h3⟩ | ⟨g', cap, cur, h2, _, _, h4, h5, _⟩
  · injection h2 with _ _ h2
    subst h2 h3
    exact ⟨Nat.le_refl _, Nat.zero_le _⟩
  · injection h2 with _ _ h2
    subst h2
    exact ⟨h4, h5⟩
theorem own_addr {w : World} {B t s n c : Nat} {a : Option Addr} {xs : List Value} (h : w.ownsRow B t s (.slice a n c) n xs) {g off : Nat} (ha : a = some ⟨g, off, none⟩) : Value.ownBlock (.slice a n c) = some g ∧ off = 0 := by
  obtain ⟨_, h2⟩ := h
  rcases h2 with ⟨h2, _⟩ | ⟨g', cap, cur, h2, _⟩
  · injection h2 with h2; rw [h2] at ha; cases ha
  · injection h2 with h2; rw [h2] at ha; injection ha with ha; injection ha with h3 h4; subst h3; rw [h2]; exact ⟨rfl, h4.symm⟩
section
variable {α : Type} {k : IntKind} {enc : α → Value → List Value} {txt : α → List Int} {s T t B : Nat} {Z : Nat → Prop} {w0 w w' : World} {F : List α} {v v' : Value} {n : Nat} {C : List Int} {u u' : Value} {m c : Nat} {a : Option Addr}
theorem LP.keep (h : LP k enc txt s T B w F v n) (e : Ex (fun _ => False) w w') : LP k enc txt s T B w' F v n := by
  obtain ⟨V, h1, h2⟩ := h.ro
  exact ⟨h.hn, ⟨V, own_kept h1 e (fun _ _ z => z), h2.keep e⟩⟩
theorem LP.base {B' : Nat} (h : LP k enc txt s T B w F v n) (hB : B' ≤ B) : LP k enc txt s T B' w F v n := by
  obtain ⟨V, q1, q2⟩ := h.ro
  exact ⟨h.hn, ⟨V, q1.mono hB, q2.move (Ex.refl (fun _ => False) w) (fun _ z => z.elim) (fun g z => .inl (z.elim (fun z => .inl z) (fun z => .inr (by omega))))⟩⟩
theorem LP.zero (hB : B ≤ w.heap.size) : LP k enc txt s T B (w.alloc (.cells #[] T)) [] (.slice (some ⟨w.heap.size, 0, none⟩) 0 0) 0 := ⟨rfl, ⟨[], own_zr w B T s hB, .nil⟩⟩
theorem LP.nil : LP k enc txt s T B w [] (.slice none 0 0) 0 := ⟨rfl, ⟨[], ⟨by simp, .inl ⟨rfl, rfl⟩⟩, .nil⟩⟩
theorem LQ.zero : LQ k enc txt s T w.heap.size (fun j => j < w.heap.size) (fun _ => False) w (w.alloc (.cells #[] T)) [] (.slice (some ⟨w.heap.size, 0, none⟩) 0 0) 0 := ⟨rfl, ⟨[], own_zr w _ T s (Nat.le_refl _), .nil⟩, Ex.of (be1 w _), fun j h => by simp [Value.ownBlock] at h; exact .inr (by omega), fun j h z => by simp [Value.ownBlock] at h; omega, fun j z => z, Nat.le_refl _⟩
theorem LQ.lp {X : Nat → Prop} (h : LQ k enc txt s T B X Z w0 w F v n) (hX : ∀ j, j < B → X j) : LP k enc txt s T B w F v n := by
  obtain ⟨V, h1, h2⟩ := h.ro
  exact ⟨h.hn, ⟨V, h1, h2.move (Ex.refl (fun _ => False) w) (fun _ z => z.elim) (fun g z => .inl (z.elim (fun z => .inl z) (fun z => .inr (hX g z))))⟩⟩
theorem LQ.keep {X : Nat → Prop} (h : LQ k enc txt s T B X Z w0 w F v n) (e : Ex (fun _ => False) w w') : LQ k enc txt s T B X Z w0 w' F v n := by
  obtain ⟨V, h1, h2⟩ := h.ro
  exact ⟨h.hn, ⟨V, own_kept h1 e (fun _ _ z => z), h2.keep e⟩, h.ex.trans2 e (fun _ z => z.elim), h.zv, h.xv, h.xb, h.bs⟩
/-- a block of X is written -/
theorem LQ.aside {X : Nat → Prop} (h : LQ k enc txt s T B X Z w0 w F v n) {S : Nat → Prop} (e : Ex S w w') (hS : ∀ j, S j → X j) (hZ : ∀ j, S j → Z j ∨ w0.heap.size ≤ j) : LQ k enc txt s T B X Z w0 w' F v n := by
  obtain ⟨V, h1, h2⟩ := h.ro
  exact ⟨h.hn, ⟨V, own_kept h1 e (fun j hj z => h.xv j hj (hS j z)), h2.move e (fun g z => .inl (.inr (hS g z))) (fun g z => .inl z)⟩, h.ex.trans2 e hZ, h.zv, h.xv, h.xb, h.bs⟩
theorem LQ.open {X : Nat → Prop} (h : LQ k enc txt s T B X Z w0 w F v n) : LO k enc txt s T t B X Z w0 (w.alloc (.cells #[] t)) F v n [] (.slice (some ⟨w.heap.size, 0, none⟩) 0 0) 0 := by
  obtain ⟨V, h1, h2⟩ := h.ro
  have e : Ex (fun _ => False) w (w.alloc (.cells #[] t)) := Ex.of (be1 w _)
  exact ⟨h.hn, rfl, ⟨V, own_kept h1 e (fun _ _ z => z), h2.move e (fun _ z => z.elim) (fun g z => by
    rcases z with z | z | z
    · exact .inl (.inl z)
    · simp [Value.ownBlock] at z; exact .inr (by omega)
    · exact .inl (.inr z))⟩, own_zr w _ t 1 (Nat.le_trans h.bs h.ex.size), fun j h3 h4 => by simp [Value.ownBlock] at h4; have := (h1.lt j h3).2; omega, h.ex.trans2 e (fun _ z => z.elim), h.zv, fun j h4 => by simp [Value.ownBlock] at h4; have := h.ex.size; exact .inr (by omega), h.xv, fun j h4 z => by simp [Value.ownBlock] at h4; have := h.ex.size; have := h.xb j z; omega, h.xb, h.bs⟩
theorem LO.keep {X : Nat → Prop} (h : LO k enc txt s T t B X Z w0 w F v n C u m) (e : Ex (fun _ => False) w w') : LO k enc txt s T t B X Z w0 w' F v n C u m := by
  obtain ⟨V, h1, h2⟩ := h.ro
  exact ⟨h.hn, h.hm, ⟨V, own_kept h1 e (fun _ _ z => z), h2.keep e⟩, own_kept h.rc e (fun _ _ z => z), h.dj, h.ex.trans2 e (fun _ z => z.elim), h.zv, h.zu, h.xv, h.xu, h.xb, h.bs⟩
theorem LO.al {X : Nat → Prop} (h : LO k enc txt s T t B X Z w0 w F v n C u m) (o : Obj) : LO k enc txt s T t B X Z w0 (w.alloc o) F v n C u m := h.keep (Ex.of (be1 w o))
theorem LO.szB {X : Nat → Prop} (h : LO k enc txt s T t B X Z w0 w F v n C u m) : B ≤ w.heap.size := Nat.le_trans h.bs h.ex.size
theorem LO.shut {X : Nat → Prop} (h : LO k enc txt s T t B X Z w0 w F v n C u m) : LQ k enc txt s T B X Z w0 w F v n := by
  obtain ⟨V, h1, h2⟩ := h.ro
  exact ⟨h.hn, ⟨V, h1, h2.move (Ex.refl (fun _ => False) w) (fun _ z => z.elim) (fun g z => .inl (z.elim (fun z => .inl z) (fun z => .inr (.inr z))))⟩, h.ex, h.zv, h.xv, h.xb, h.bs⟩
/-- a block of X is written -/
theorem LO.aside {X : Nat → Prop} (h : LO k enc txt s T t B X Z w0 w F v n C u m) {S : Nat → Prop} (e : Ex S w w') (hS : ∀ j, S j → X j) (hZ : ∀ j, S j → Z j ∨ w0.heap.size ≤ j) : LO k enc txt s T t B X Z w0 w' F v n C u m := by
  obtain ⟨V, h1, h2⟩ := h.ro
  exact ⟨h.hn, h.hm, ⟨V, own_kept h1 e (fun j hj z => h.xv j hj (hS j z)), h2.move e (fun g z => .inl (.inr (.inr (hS g z)))) (fun g z => .inl z)⟩, own_kept h.rc e (fun j hj z => h.xu j hj (hS j z)), h.dj, h.ex.trans2 e hZ, h.zv, h.zu, h.xv, h.xu, h.xb, h.bs⟩
/-- one more number in the row at work -/
theorem LO.num {X : Nat → Prop} (h : LO k enc txt s T t B X Z w0 w F v n C u m) {x : Int} {g c : Nat} (hr : w'.ownsRow B t 1 (.slice (some ⟨g, 0, none⟩) (m + 1) c) (m + 1) (C.map (Value.int k) ++ [.int k x])) (hg : w.grownBy w' u.ownBlock) (hat : u.ownBlock = some g ∨ g = w.heap.size) : LO k enc txt s T t B X Z w0 w' F v n (C ++ [x]) (.slice (some ⟨g, 0, none⟩) (m + 1) c) (m + 1) := by
  obtain ⟨V, h1, h2⟩ := h.ro
  have e : Ex (fun j => u.ownBlock = some j) w w' := Ex.ofGrown hg (fun k z => z.symm)
  refine ⟨h.hn, by rw [List.length_append, h.hm]; rfl, ⟨V, own_kept h1 e (fun j hj z => h.dj j hj z), h2.move e (fun g z => .inl (.inr (.inl z))) (fun j z => ?_)⟩, ?_, fun j hj z => ?_, h.ex.trans2 e (fun j z => h.zu j z), h.zv, fun j z => ?_, h.xv, fun j z q => ?_, h.xb, h.bs⟩
  · rcases z with z | z | z
    · exact .inl (.inl z)
    · simp [Value.ownBlock] at z
      subst z
      rcases hat with q | q
      · exact .inl (.inr (.inl q))
      · exact .inr (by omega)
    · exact .inl (.inr (.inr z))
  · rw [List.map_append]; exact hr
  · simp [Value.ownBlock] at z
    subst z
    rcases hat with q | q
    · exact h.dj _ hj q
    · have := (h1.lt _ hj).2; omega
  · simp [Value.ownBlock] at z
    subst z
    rcases hat with q | q
    · exact h.zu _ q
    · have := h.ex.size; exact .inr (by omega)
  · simp [Value.ownBlock] at z
    subst z
    rcases hat with q1 | q1
    · exact h.xu _ q1 q
    · have := h.ex.size; have := h.xb _ q; omega
/-- the row at work joins the outer row -/
theorem LO.push {X : Nat → Prop} (h : LO k enc txt s T t B X Z w0 w F v n C (.slice a m c) m) {x : α} (hx : txt x = C) {g c' : Nat} {V : List Value} (h2 : RG k enc txt w (fun j => v.ownBlock = some j ∨ (Value.slice a m c).ownBlock = some j ∨ X j) V F) (hr : w'.ownsRow B T s (.slice (some ⟨g, 0, none⟩) (n + 1) c') (n + 1) (V ++ enc x (.slice a m c))) (hg : w.grownBy w' v.ownBlock) (hat : v.ownBlock = some g ∨ g = w.heap.size) : LQ k enc txt s T B X Z w0 w' (F ++ [x]) (.slice (some ⟨g, 0, none⟩) (n + 1) c') (n + 1) := by
  have e : Ex (fun j => v.ownBlock = some j) w w' := Ex.ofGrown hg (fun k z => z.symm)
  have hcap := row_cap h.rc
  refine ⟨by rw [List.length_append, h.hn]; rfl, ⟨_, hr, ?_⟩, h.ex.trans2 e (fun j z => h.zv j z), fun j z => ?_, fun j z q => ?_, h.xb, h.bs⟩
  · have hl : (txt x).length = m := by rw [hx]; exact h.hm
    have h3 := (h2.move (Ex.refl (fun _ => False) w) (fun _ z => z.elim) (D' := fun j => v.ownBlock = some j ∨ X j) (fun g z => .inl (z.elim (fun z => .inl z) (fun z => .inr (.inr z))))).push e (fun g z => .inl (.inl z)) (D' := fun j => (Value.slice (some ⟨g, 0, none⟩) (n + 1) c').ownBlock = some j ∨ X j) (fun j z => by
      rcases z with z | z
      rotate_left
      · exact .inl (.inr z)
      simp [Value.ownBlock] at z
      subst z
      rcases hat with q | q
      · exact .inl (.inl q)
      · exact .inr (by omega)) (x := x) (a := a) (c := c) (by rw [hx]; exact rowk_ik h.rc) (by rw [hl]; exact hcap.1) hcap.2 (fun g off ea => ⟨(h.rc.lt g (own_addr h.rc ea).1).2, fun z => z.elim (fun z => h.dj g z (own_addr h.rc ea).1) (fun z => h.xu g (own_addr h.rc ea).1 z)⟩)
    rw [hl] at h3
    exact h3
  · simp [Value.ownBlock] at z
    subst z
    rcases hat with q | q
    · exact h.zv _ q
    · have := h.ex.size; exact .inr (by omega)
  · simp [Value.ownBlock] at z
    subst z
    rcases hat with q1 | q1
    · exact h.xv _ q1 q
    · have := h.ex.size; have := h.xb _ q; omega
/-- an element joins an owned row; its slice lies elsewhere -/
theorem LP.push {V : List Value} (h2 : RG k enc txt w (fun j => v.ownBlock = some j ∨ j < B) V F) (hn : F.length = n) {x : α} {g c' : Nat} (hi : IK k w a (txt x)) (hl : (txt x).length = m) (hc : m ≤ c) (hm : c ≤ maxLen) (ha : ∀ g off, a = some ⟨g, off, none⟩ → g < w.heap.size ∧ ¬ (v.ownBlock = some g ∨ g < B)) (hr : w'.ownsRow B T s (.slice (some ⟨g, 0, none⟩) (n + 1) c') (n + 1) (V ++ enc x (.slice a m c))) (hg : w.grownBy w' v.ownBlock) (hat : v.ownBlock = some g ∨ g = w.heap.size) : LP k enc txt s T B w' (F ++ [x]) (.slice (some ⟨g, 0, none⟩) (n + 1) c') (n + 1) := by
  have e : Ex (fun j => v.ownBlock = some j) w w' := Ex.ofGrown hg (fun k z => z.symm)
  refine ⟨by rw [List.length_append, hn]; rfl, ⟨_, hr, ?_⟩⟩
  have h3 := h2.push e (fun g z => .inl (.inl z)) (D' := fun j => (Value.slice (some ⟨g, 0, none⟩) (n + 1) c').ownBlock = some j ∨ j < B) (fun j z => by
    rcases z with z | z
    rotate_left
    · exact .inl (.inr z)
    simp [Value.ownBlock] at z
    subst z
    rcases hat with q | q
    · exact .inl (.inl q)
    · exact .inr (by omega)) (x := x) (a := a) (c := c) hi (by rw [hl]; exact hc) hm ha
  rw [hl] at h3
  exact h3
/-- what an element of the row is in memory -/
theorem LP.at (h : LP k enc txt s T B w F v n) (hs : ∀ x y, (enc x y).length = s) {j : Nat} {x : α} (hj : F[j]? = some x) : ∃ g cv a c, v = .slice (some ⟨g, 0, none⟩) n cv ∧ j < n ∧ (∀ r, r < s → ∀ y, (enc x (.slice a (txt x).length c))[r]? = some y → w.cell? ⟨g, j * s + r, none⟩ = some y) ∧ IK k w a (txt x) ∧ (txt x).length ≤ c ∧ c ≤ maxLen ∧ ∀ g off, a = some ⟨g, off, none⟩ → g < w.heap.size ∧ ¬ (v.ownBlock = some g ∨ g < B) := by
  obtain ⟨V, h1, h2⟩ := h.ro
  have hlt : j < n := by rw [← h.hn]; exact (List.getElem?_eq_some_iff.1 hj).1
  obtain ⟨g, cv, rfl⟩ := own_some h1 (by omega)
  obtain ⟨a, c, q1, q2⟩ := h2.at hs hj
  refine ⟨g, cv, a, c, rfl, hlt, fun r hr y hy => ?_, q2⟩
  have := h1.cells (g := g) rfl (j * s + r) y (by rw [q1 r hr]; exact hy)
  rw [Addr.add_mid, Nat.zero_add] at this
  exact this
end
end Go.Proofs.Qxb6500773aGreat
