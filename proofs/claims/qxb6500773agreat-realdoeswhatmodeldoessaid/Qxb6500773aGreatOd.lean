import Derived.Test.Qxb6500773aGreatOc
namespace Go.Proofs.Qxb6500773aGreat
open Go.RowKit

/-! ### What holds of the model's bench -/
structure FOk2 (z : Nat) (F : List (List Int)) : Prop where
  len : F.length ≤ z
  mem : ∀ C ∈ F, C.length ≤ z ∧ ∀ x ∈ C, DI x ∧ x ≠ 0
structure POk2 (z : Nat) (P : List (Bool × List Int)) : Prop where
  len : P.length ≤ z
  mem : ∀ C ∈ P, C.2.length ≤ z ∧ ∀ x ∈ C.2, DI x ∧ x ≠ 0
structure AOk2 (z : Nat) (A : List Int) : Prop where
  len : A.length ≤ z
  mem : ∀ x ∈ A, DI x ∧ x ≠ 0
structure MsOk (z : Nat) (s : Mst) : Prop where
  nv : 0 ≤ s.nv ∧ s.nv ≤ 16777215
  sv : 0 ≤ s.sv ∧ s.sv ≤ 16777215
  F : FOk2 z s.F
  SF : FOk2 z s.SF
  P : POk2 z s.P
  SP : POk2 z s.SP
  A : AOk2 z s.A
  SA : AOk2 z s.SA
theorem set_swap (w : World) (m i j : Nat) (u v : Value) (h : i ≠ j) : (w.setCell ⟨m, i, none⟩ u).setCell ⟨m, j, none⟩ v = (w.setCell ⟨m, j, none⟩ v).setCell ⟨m, i, none⟩ u := by
  unfold World.setCell
  congr 1
  apply Array.ext_getElem?
  intro k
  simp only [Array.getElem?_modify]
  split
  · cases hk : w.heap[k]? with
    | none => rfl
    | some o =>
      cases o with
      | cells c e f => simp [Array.setIfInBounds_comm _ _ h]
      | _ => rfl
  · rfl
theorem di_64 {x : Int} (h : DI x) : I64 x := by unfold DI at h; unfold I64; omega
theorem FOk2.fb {z : Nat} {F : List (List Int)} (h : FOk2 z F) (hz : z ≤ 1000000) : FB F := fun C hC => ⟨by have := (h.mem C hC).1; omega, fun x hx => di_64 ((h.mem C hC).2 x hx).1⟩
theorem POk2.sb {z : Nat} {F : List (Bool × List Int)} (h : POk2 z F) (hz : z ≤ 1000000) : SB F := fun C hC => ⟨by have := (h.mem C hC).1; omega, fun x hx => di_64 ((h.mem C hC).2 x hx).1⟩
theorem AOk2.i64 {z : Nat} {A : List Int} (h : AOk2 z A) : ∀ x ∈ A, -9223372036854775807 ≤ x ∧ x ≤ 9223372036854775807 := fun x hx => di_64 (h.mem x hx).1
theorem dec_len {d : Int} (h : DI d) : (decI d).length ≤ 21 := by
  unfold DI at h
  have h1 : (lowD d.natAbs).length ≤ 20 := lowD_20 (by omega)
  unfold decI
  split <;> simp <;> omega
theorem pcB_len : ∀ {C : List Int}, (∀ x ∈ C, DI x) → (pcB C).length ≤ C.length * 22
  | [], _ => by simp [pcB]
  | d :: r, h => by
    have h1 := pcB_len (C := r) (fun x hx => h x (List.mem_cons_of_mem _ hx))
    have h2 := dec_len (h d List.mem_cons_self)
    unfold pcB at h1 ⊢
    simp only [List.flatMap_cons, List.length_append, List.length_cons, List.length_nil] at h1 ⊢
    omega
theorem pcP_len {z : Nat} {C : List Int} (hz : z ≤ 65536) (hl : C.length ≤ z) (h : ∀ x ∈ C, DI x) : (pcP C).length ≤ 1441794 := by
  have := pcB_len h
  unfold pcP
  simp
  omega
theorem flP_len {z : Nat} (hz : z ≤ 65536) : ∀ {F : List (List Int)}, (∀ C ∈ F, C.length ≤ z ∧ ∀ x ∈ C, DI x ∧ x ≠ 0) → (F.flatMap pcP).length ≤ F.length * 1441794
  | [], _ => by simp
  | C :: r, h => by
    have h1 := flP_len hz (F := r) (fun x hx => h x (List.mem_cons_of_mem _ hx))
    have h2 := pcP_len hz (h C List.mem_cons_self).1 (fun x hx => ((h C List.mem_cons_self).2 x hx).1)
    simp only [List.flatMap_cons, List.length_append, List.length_cons] at h1 ⊢
    omega
theorem FOk2.txt {z : Nat} {F : List (List Int)} (h : FOk2 z F) (hz : z ≤ 65536) : (F.flatMap pcP).length ≤ 1000000000000 := by
  have h1 := flP_len hz h.mem
  have h2 := h.len
  omega
theorem ptB_len {z : Nat} (hz : z ≤ 65536) : ∀ {F : List (Bool × List Int)}, (∀ C ∈ F, C.2.length ≤ z ∧ ∀ x ∈ C.2, DI x ∧ x ≠ 0) → (ptB F).length ≤ F.length * 1441796
  | [], _ => by simp [ptB]
  | C :: r, h => by
    have h1 := ptB_len hz (F := r) (fun x hx => h x (List.mem_cons_of_mem _ hx))
    have h2 := pcP_len hz (h C List.mem_cons_self).1 (fun x hx => ((h C List.mem_cons_self).2 x hx).1)
    have h3 : (ptP C).length ≤ 1441796 := by unfold ptP; split <;> simp <;> omega
    unfold ptB at h1 ⊢
    simp only [List.flatMap_cons, List.length_append, List.length_cons] at h1 ⊢
    omega
theorem POk2.txt {z : Nat} {F : List (Bool × List Int)} (h : POk2 z F) (hz : z ≤ 65536) : (ptB F).length ≤ 1000000000000 := by
  have h1 := ptB_len hz h.mem
  have h2 := h.len
  omega
section
variable {w0 w w' : World} {R : Nat → Prop} {B m q t o : Nat} {X : Nat → Prop} {V : Nat → Value} {S : Nat → Nat → Prop} {s : Mst} {v : OpV} {b : Ob} {tv : Value} {x : Value}
theorem MW.vf (h : MW w0 w R B m q t o X V S s v b tv) (hv : V 0 = x) : w.cell? ⟨m, 1, none⟩ = some x := by rw [← hv]; exact h.mn.c 0 (by decide)
theorem MW.vp (h : MW w0 w R B m q t o X V S s v b tv) (hv : V 1 = x) : w.cell? ⟨m, 3, none⟩ = some x := by rw [← hv]; exact h.mn.c 1 (by decide)
theorem MW.vsf (h : MW w0 w R B m q t o X V S s v b tv) (hv : V 2 = x) : w.cell? ⟨m, 5, none⟩ = some x := by rw [← hv]; exact h.mn.c 2 (by decide)
theorem MW.vsp (h : MW w0 w R B m q t o X V S s v b tv) (hv : V 3 = x) : w.cell? ⟨m, 7, none⟩ = some x := by rw [← hv]; exact h.mn.c 3 (by decide)
theorem MW.va (h : MW w0 w R B m q t o X V S s v b tv) (hv : V 4 = x) : w.cell? ⟨m, 2, none⟩ = some x := by rw [← hv]; exact h.mn.c 4 (by decide)
theorem MW.vsa (h : MW w0 w R B m q t o X V S s v b tv) (hv : V 5 = x) : w.cell? ⟨m, 6, none⟩ = some x := by rw [← hv]; exact h.mn.c 5 (by decide)
theorem MW.elem (h : MW w0 w R B m q t o X V S s v b tv) {a : Option Addr} {n c : Nat} (hv : V 0 = .slice a n c) {j : Nat} {C : List Int} (hj : s.F[j]? = some C) : ∃ g a1 c1, a = some ⟨g, 0, none⟩ ∧ w.cell? ⟨g, j, none⟩ = some (.slice a1 C.length c1) ∧ IL w a1 C ∧ C.length ≤ c1 ∧ c1 ≤ maxLen ∧ g ≠ o ∧ j < n := by
  obtain ⟨a', n', c', V', h0, h1, h2, h3, h4⟩ := h.mn.ob 0 (by decide)
  rw [hv] at h0 h2 h4
  injection h0 with h5 h6 h7
  subst h5 h6 h7
  have hlt : j < n := by rw [← h1]; exact (List.getElem?_eq_some_iff.1 hj).1
  obtain ⟨g, cv, ev⟩ := own_some h2 (by omega)
  injection ev with ev _ ev2
  subst ev ev2
  obtain ⟨a1, c1, q1, q2, q3, q4, _⟩ := h3.at (s := 1) (fun _ _ => rfl) hj
  have := h2.cells (g := g) rfl (j * 1 + 0) (.slice a1 C.length c1) (by rw [q1 0 (by decide)]; rfl)
  rw [Addr.add_mid, Nat.zero_add, Nat.mul_one, Nat.add_zero] at this
  exact ⟨g, a1, c1, rfl, this, q2.il, q3, q4, fun z => h.mn.dx 0 (by decide) g ((h4 g).2 rfl) (.inr (.inr (.inr z))), hlt⟩
theorem MW.elemP (h : MW w0 w R B m q t o X V S s v b tv) {a : Option Addr} {n c : Nat} (hv : V 1 = .slice a n c) {j : Nat} {C : Bool × List Int} (hj : s.P[j]? = some C) : ∃ g a1 c1, a = some ⟨g, 0, none⟩ ∧ w.cell? ⟨g, j * 2, none⟩ = some (.bool C.1) ∧ w.cell? ⟨g, j * 2 + 1, none⟩ = some (.slice a1 C.2.length c1) ∧ IL w a1 C.2 ∧ C.2.length ≤ c1 ∧ c1 ≤ maxLen ∧ g ≠ o ∧ j < n := by
  obtain ⟨a', n', c', V', h0, h1, h2, h3, h4⟩ := h.mn.ob 1 (by decide)
  rw [hv] at h0 h2 h4
  injection h0 with h5 h6 h7
  subst h5 h6 h7
  have hlt : j < n := by rw [← h1]; exact (List.getElem?_eq_some_iff.1 hj).1
  obtain ⟨g, cv, ev⟩ := own_some h2 (by omega)
  injection ev with ev _ ev2
  subst ev ev2
  obtain ⟨a1, c1, q1, q2, q3, q4, _⟩ := h3.at (s := 2) (fun _ _ => rfl) hj
  have z0 := h2.cells (g := g) rfl (j * 2 + 0) (.bool C.1) (by rw [q1 0 (by decide)]; rfl)
  have z1 := h2.cells (g := g) rfl (j * 2 + 1) (.slice a1 C.2.length c1) (by rw [q1 1 (by decide)]; rfl)
  rw [Addr.add_mid, Nat.zero_add] at z0 z1
  rw [Nat.add_zero] at z0
  exact ⟨g, a1, c1, rfl, z0, z1, q2.il, q3, q4, fun z => h.mn.dx 1 (by decide) g ((h4 g).2 rfl) (.inr (.inr (.inr z))), hlt⟩
theorem MW.rowP (h : MW w0 w R B m q t o X V S s v b tv) {a : Option Addr} {n c : Nat} (hv : V 1 = .slice a n c) : ∃ Vr, w.ownsRow B 136 2 (.slice a n c) n Vr ∧ RG .i64 e2 t2 w (DN B (Xq X q t o) m S) Vr s.P ∧ s.P.length = n ∧ ∀ k, (Value.slice a n c).ownBlock = some k → S 1 k := by
  obtain ⟨a', n', c', V', h0, h1, h2, h3, h4⟩ := h.mn.ob 1 (by decide)
  rw [hv] at h0 h2 h4
  injection h0 with h5 h6 h7
  subst h5 h6 h7
  exact ⟨V', h2, h3, h1, fun k z => (h4 k).2 z⟩
theorem MW.joinP (h : MW w0 w R B m q t o X V S s v b tv) {w1 : World} (ew : Ex (fun _ => False) w w1) {d : Bool} {C : List Int} {a1 : Option Addr} {m1 c1 : Nat} (hrow : w1.ownsRow w.heap.size 3 1 (.slice a1 m1 c1) m1 (row64 C)) (hl : C.length = m1) {a : Option Addr} {n c : Nat} (hv : V 1 = .slice a n c) {Vr : List Value} (h2 : RG .i64 e2 t2 w1 (DN B (Xq X q t o) m S) Vr s.P) {g c' : Nat} (hr : w'.ownsRow B 136 2 (.slice (some ⟨g, 0, none⟩) (n + 1) c') (n + 1) (Vr ++ [.bool d, .slice a1 m1 c1])) (hg : w1.grownBy w' (Value.slice a n c).ownBlock) (hat : (Value.slice a n c).ownBlock = some g ∨ g = w1.heap.size) : ∃ V' S', MW w0 (w'.setCell ⟨m, 3, none⟩ (.slice (some ⟨g, 0, none⟩) (n + 1) c')) R B m q t o X V' S' { s with P := s.P ++ [(d, C)] } v b tv := by
  have hk := h.lowE ew
  obtain ⟨Vx, _, _, hn, hS⟩ := hk.rowP hv
  have hcap := row_cap hrow
  have e : Ex (fun k => (Value.slice a n c).ownBlock = some k) w1 w' := Ex.ofGrown hg (fun _ z => z.symm)
  have hs : ∀ k, (Value.slice (some ⟨g, 0, none⟩) (n + 1) c').ownBlock = some k → S 1 k ∨ w1.heap.size ≤ k := fun k z => by
    simp [Value.ownBlock] at z
    subst z
    rcases hat with y | y
    · exact .inl (hS _ y)
    · exact .inr (by omega)
  have hD : ∀ k, DN B (Xq X q t o) m (up S 1 (fun k => (Value.slice (some ⟨g, 0, none⟩) (n + 1) c').ownBlock = some k)) k → DN B (Xq X q t o) m S k ∨ w1.heap.size ≤ k := fun k z => by
    rcases z with z | z | z | ⟨j, hj, z⟩
    · exact .inl (.inl z)
    · exact .inl (.inr (.inl z))
    · exact .inl (.inr (.inr (.inl z)))
    · by_cases y : j = 1
      · subst y
        rw [up_at] at z
        rcases hs k z with x | x
        · exact .inl (.inr (.inr (.inr ⟨1, by decide, x⟩)))
        · exact .inr x
      · rw [up_ne _ _ y] at z
        exact .inl (.inr (.inr (.inr ⟨j, hj, z⟩)))
  have h3 := h2.push e (fun k z => .inl (.inr (.inr (.inr ⟨1, by decide, hS k z⟩)))) hD (x := (d, C)) (a := a1) (c := c1) (rowk_ik hrow) (by show C.length ≤ c1; rw [hl]; exact hcap.1) hcap.2 (fun k off ea => by
    have hlt := hrow.lt k (own_addr hrow ea).1
    refine ⟨hlt.2, fun z => ?_⟩
    have hz : k < w.heap.size := by
      rcases z with z | z | z | ⟨j, hj, z⟩
      · exact Nat.lt_of_lt_of_le z h.szB
      · exact h.xlt k z
      · rw [z]; exact h.mn.lt
      · exact (h.mn.rg j hj k z).2
    omega)
  rw [show (t2 (d, C)).length = m1 from hl] at h3
  exact ⟨_, _, hk.put (i := 1) (by decide) (e.mono (fun k z => hS k z)) (S' := fun k => (Value.slice (some ⟨g, 0, none⟩) (n + 1) c').ownBlock = some k) ⟨_, n + 1, c', _, rfl, by rw [List.length_append, hn]; rfl, hr, h3, fun k => Iff.rfl⟩ (fr_P B _) hs (fun k z => hr.lt k z) (qm_P B s _) ⟨rfl, rfl⟩⟩
/-- the greatest variable of L, or n -/
def mxA (n : Int) (L : List Int) : Int := L.foldl (fun n d => if n < absP d then absP d else n) n
theorem mxA_snoc (n : Int) (L : List Int) {i : Nat} {x : Int} (h : L[i]? = some x) : mxA n (L.take (i + 1)) = if mxA n (L.take i) < absP x then absP x else mxA n (L.take i) := by
  unfold mxA
  rw [List.take_add_one, h]
  simp [List.foldl_append]
def mxQ (n : Int) (P : List (Bool × List Int)) : Int := P.foldl (fun n s => mxA n s.2) n
def emQ (P : List (Bool × List Int)) : Int := if P.any (fun s => !s.1 && s.2.length == 0) = true then 1 else 0
theorem mxQ_snoc (n : Int) (P : List (Bool × List Int)) {i : Nat} {d : Bool} {C : List Int} (h : P[i]? = some (d, C)) : mxQ n (P.take (i + 1)) = mxA (mxQ n (P.take i)) C := by
  unfold mxQ
  rw [List.take_add_one, h]
  simp [List.foldl_append]
theorem emQ_snoc (P : List (Bool × List Int)) {i : Nat} {d : Bool} {C : List Int} (h : P[i]? = some (d, C)) : emQ (P.take (i + 1)) = if d = false ∧ C.length = 0 then 1 else emQ (P.take i) := by
  unfold emQ
  rw [List.take_add_one, h]
  simp only [Option.toList, List.any_append, List.any_cons, List.any_nil, Bool.or_false]
  cases d <;> by_cases hc : C.length = 0 <;> simp [hc]
/-- the same store on both sides -/
theorem Ex.setBoth {a b : World} (h : Ex (fun _ => False) a b) (p : Addr) (u : Value) : Ex (fun _ => False) (a.setCell p u) (b.setCell p u) := by
  refine ⟨h.os, h.tape, h.output, by simpa using h.size, fun k hk hn => ?_⟩
  have hk' : k < a.heap.size := by simpa using hk
  have hb := h.block k hk' hn
  simp only [World.setCell, Array.getElem?_modify]
  rw [hb]
/-- a new object, stored after the failure's three numbers -/
theorem MW.lateF (h : MW w0 w R B m q t o X V S s v b tv) {F : List (List Int)} {vf : Value} {n : Nat} (hp : LP .i64 e1 t1 1 30 w.heap.size w' F vf n) (hx : Ex (fun _ => False) w w') (x y z : Int) : ∃ V' S', MW w0 ((((w'.setCell ⟨o, 0, none⟩ (.int .i64 x)).setCell ⟨o, 1, none⟩ (.int .i64 y)).setCell ⟨o, 2, none⟩ (.int .i64 z)).setCell ⟨m, 1, none⟩ vf) R B m q t o X V' S' { s with F := F } v { b with er := x, ln := y, col := z } tv := by
  have e : Ex (fun k => k = o) w' (((w'.setCell ⟨o, 0, none⟩ (.int .i64 x)).setCell ⟨o, 1, none⟩ (.int .i64 y)).setCell ⟨o, 2, none⟩ (.int .i64 z)) := (((Ex.refl (fun k => k = o) w').set (p := o) rfl _).set (p := o) rfl _).set (p := o) rfl _
  have hq := hp.under e (fun k hk => by rw [show k = o from hk]; exact h.lt.2.2)
  have hz : (((w.setCell ⟨o, 0, none⟩ (.int .i64 x)).setCell ⟨o, 1, none⟩ (.int .i64 y)).setCell ⟨o, 2, none⟩ (.int .i64 z)).heap.size = w.heap.size := by simp
  exact (h.fa x y z).newF (by rw [hz]; exact hq) (((hx.setBoth _ _).setBoth _ _).setBoth _ _)
/-- a new object, stored after the failure's three numbers -/
theorem MW.lateP (h : MW w0 w R B m q t o X V S s v b tv) {F : List (Bool × List Int)} {vf : Value} {n : Nat} (hp : LP .i64 e2 t2 2 136 w.heap.size w' F vf n) (hx : Ex (fun _ => False) w w') (x y z : Int) : ∃ V' S', MW w0 ((((w'.setCell ⟨o, 0, none⟩ (.int .i64 x)).setCell ⟨o, 1, none⟩ (.int .i64 y)).setCell ⟨o, 2, none⟩ (.int .i64 z)).setCell ⟨m, 3, none⟩ vf) R B m q t o X V' S' { s with P := F } v { b with er := x, ln := y, col := z } tv := by
  have e : Ex (fun k => k = o) w' (((w'.setCell ⟨o, 0, none⟩ (.int .i64 x)).setCell ⟨o, 1, none⟩ (.int .i64 y)).setCell ⟨o, 2, none⟩ (.int .i64 z)) := (((Ex.refl (fun k => k = o) w').set (p := o) rfl _).set (p := o) rfl _).set (p := o) rfl _
  have hq := hp.under e (fun k hk => by rw [show k = o from hk]; exact h.lt.2.2)
  have hz : (((w.setCell ⟨o, 0, none⟩ (.int .i64 x)).setCell ⟨o, 1, none⟩ (.int .i64 y)).setCell ⟨o, 2, none⟩ (.int .i64 z)).heap.size = w.heap.size := by simp
  exact (h.fa x y z).newP (by rw [hz]; exact hq) (((hx.setBoth _ _).setBoth _ _).setBoth _ _)
theorem MW.fAt (h : MW w0 w R B m q t o X V S s v b tv) {a : Option Addr} {n c : Nat} (hv : V 0 = .slice a n c) : FL w a s.F := by
  obtain ⟨a', c', h0, hl, _⟩ := h.f
  rw [hv] at h0
  injection h0 with h1 _ _
  subst h1
  exact hl
theorem MW.pAt (h : MW w0 w R B m q t o X V S s v b tv) {a : Option Addr} {n c : Nat} (hv : V 1 = .slice a n c) : SL w a s.P := by
  obtain ⟨a', c', h0, hl, _⟩ := h.p
  rw [hv] at h0
  injection h0 with h1 _ _
  subst h1
  exact hl
theorem MW.sfAt (h : MW w0 w R B m q t o X V S s v b tv) {a : Option Addr} {n c : Nat} (hv : V 2 = .slice a n c) : FL w a s.SF := by
  obtain ⟨a', c', h0, hl, _⟩ := h.sf
  rw [hv] at h0
  injection h0 with h1 _ _
  subst h1
  exact hl
theorem MW.spAt (h : MW w0 w R B m q t o X V S s v b tv) {a : Option Addr} {n c : Nat} (hv : V 3 = .slice a n c) : SL w a s.SP := by
  obtain ⟨a', c', h0, hl, _⟩ := h.sp
  rw [hv] at h0
  injection h0 with h1 _ _
  subst h1
  exact hl
theorem MW.aAt (h : MW w0 w R B m q t o X V S s v b tv) {a : Option Addr} {n c : Nat} (hv : V 4 = .slice a n c) : IL w a s.A := by
  obtain ⟨a', c', h0, hl, _⟩ := h.a
  rw [hv] at h0
  injection h0 with h1 _ _
  subst h1
  exact hl
theorem MW.saAt (h : MW w0 w R B m q t o X V S s v b tv) {a : Option Addr} {n c : Nat} (hv : V 5 = .slice a n c) : IL w a s.SA := by
  obtain ⟨a', c', h0, hl, _⟩ := h.sa
  rw [hv] at h0
  injection h0 with h1 _ _
  subst h1
  exact hl
theorem MW.rowF (h : MW w0 w R B m q t o X V S s v b tv) {a : Option Addr} {n c : Nat} (hv : V 0 = .slice a n c) : ∃ Vr, w.ownsRow B 30 1 (.slice a n c) n Vr ∧ RG .i64 e1 t1 w (DN B (Xq X q t o) m S) Vr s.F ∧ s.F.length = n ∧ ∀ k, (Value.slice a n c).ownBlock = some k → S 0 k := by
  obtain ⟨a', n', c', V', h0, h1, h2, h3, h4⟩ := h.mn.ob 0 (by decide)
  rw [hv] at h0 h2 h4
  injection h0 with h5 h6 h7
  subst h5 h6 h7
  exact ⟨V', h2, h3, h1, fun k z => (h4 k).2 z⟩
theorem MW.joinF (h : MW w0 w R B m q t o X V S s v b tv) {w1 : World} (ew : Ex (fun _ => False) w w1) {C : List Int} {a1 : Option Addr} {m1 c1 : Nat} (hrow : w1.ownsRow w.heap.size 3 1 (.slice a1 m1 c1) m1 (row64 C)) (hl : C.length = m1) {a : Option Addr} {n c : Nat} (hv : V 0 = .slice a n c) {Vr : List Value} (h2 : RG .i64 e1 t1 w1 (DN B (Xq X q t o) m S) Vr s.F) {g c' : Nat} (hr : w'.ownsRow B 30 1 (.slice (some ⟨g, 0, none⟩) (n + 1) c') (n + 1) (Vr ++ [.slice a1 m1 c1])) (hg : w1.grownBy w' (Value.slice a n c).ownBlock) (hat : (Value.slice a n c).ownBlock = some g ∨ g = w1.heap.size) : ∃ V' S', MW w0 (w'.setCell ⟨m, 1, none⟩ (.slice (some ⟨g, 0, none⟩) (n + 1) c')) R B m q t o X V' S' { s with F := s.F ++ [C] } v b tv := by
  have hk := h.lowE ew
  obtain ⟨Vx, _, _, hn, hS⟩ := hk.rowF hv
  have hcap := row_cap hrow
  have e : Ex (fun k => (Value.slice a n c).ownBlock = some k) w1 w' := Ex.ofGrown hg (fun _ z => z.symm)
  have hs : ∀ k, (Value.slice (some ⟨g, 0, none⟩) (n + 1) c').ownBlock = some k → S 0 k ∨ w1.heap.size ≤ k := fun k z => by
    simp [Value.ownBlock] at z
    subst z
    rcases hat with y | y
    · exact .inl (hS _ y)
    · exact .inr (by omega)
  have hD : ∀ k, DN B (Xq X q t o) m (up S 0 (fun k => (Value.slice (some ⟨g, 0, none⟩) (n + 1) c').ownBlock = some k)) k → DN B (Xq X q t o) m S k ∨ w1.heap.size ≤ k := fun k z => by
    rcases z with z | z | z | ⟨j, hj, z⟩
    · exact .inl (.inl z)
    · exact .inl (.inr (.inl z))
    · exact .inl (.inr (.inr (.inl z)))
    · by_cases y : j = 0
      · subst y
        rw [up_at] at z
        rcases hs k z with x | x
        · exact .inl (.inr (.inr (.inr ⟨0, by decide, x⟩)))
        · exact .inr x
      · rw [up_ne _ _ y] at z
        exact .inl (.inr (.inr (.inr ⟨j, hj, z⟩)))
  have h3 := h2.push e (fun k z => .inl (.inr (.inr (.inr ⟨0, by decide, hS k z⟩)))) hD (x := C) (a := a1) (c := c1) (rowk_ik hrow) (by show C.length ≤ c1; rw [hl]; exact hcap.1) hcap.2 (fun k off ea => by
    have hlt := hrow.lt k (own_addr hrow ea).1
    refine ⟨hlt.2, fun z => ?_⟩
    have hz : k < w.heap.size := by
      rcases z with z | z | z | ⟨j, hj, z⟩
      · exact Nat.lt_of_lt_of_le z h.szB
      · exact h.xlt k z
      · rw [z]; exact h.mn.lt
      · exact (h.mn.rg j hj k z).2
    omega)
  rw [show (t1 C).length = m1 from hl] at h3
  exact ⟨_, _, hk.put (i := 0) (by decide) (e.mono (fun k z => hS k z)) (S' := fun k => (Value.slice (some ⟨g, 0, none⟩) (n + 1) c').ownBlock = some k) ⟨_, n + 1, c', _, rfl, by rw [List.length_append, hn]; rfl, hr, h3, fun k => Iff.rfl⟩ (fr_F B _) hs (fun k z => hr.lt k z) (qm_F B s _) ⟨rfl, rfl⟩⟩
theorem MW.exB (h : MW w0 w R B m q t o X V S s v b tv) (hR : ∀ k, R k → B ≤ k) : Ex (fun k => B ≤ k) w0 w := h.ex.mono hR
end
theorem drA_bad {el ec er ln col : Int} : ∀ (Ts : List Tk) (P : List (Bool × List Int)) (d : Bool) (C : List Int), drA el ec P d C Ts = .bad er ln col → er ≠ 0
  | [], P, d, C, h => by
    unfold drA at h
    split at h
    · cases h; decide
    · cases h
  | t :: r, P, d, C, h => by
    unfold drA at h
    split at h
    · exact drA_bad r _ _ _ h
    · split at h
      · next hz => cases h; exact hz
      · split at h
        · exact drA_bad r _ _ _ h
        · exact drA_bad r _ _ _ h
theorem drP_bad {X : List Int} {er ln col : Int} (h : drP X = .bad er ln col) : er ≠ 0 := drA_bad _ _ _ _ h
theorem fmA_bad {el ec vars cnt er ln col : Int} : ∀ (Ts : List Tk) (F : List (List Int)) (C : List Int), fmA el ec vars cnt F C Ts = .bad er ln col → er ≠ 0
  | [], F, C, h => by
    unfold fmA at h
    split at h
    · cases h; decide
    · split at h
      · cases h
      · cases h; decide
  | t :: r, F, C, h => by
    unfold fmA at h
    split at h
    · next hz => cases h; exact hz
    · split at h
      · cases h; decide
      · split at h
        · cases h; decide
        · split at h
          · exact fmA_bad r _ _ h
          · exact fmA_bad r _ _ h
theorem fmP_bad {X : List Int} {er ln col : Int} (h : fmP X = .bad er ln col) : er ≠ 0 := by
  unfold fmP at h
  split at h
  · cases h; decide
  · unfold fm1 badT at h
    split at h
    · unfold fm2 badT at h
      split at h
      · cases h; decide
      · split at h
        · unfold fm3 badT at h
          split at h
          · cases h; decide
          · split at h
            · split at h
              · cases h; decide
              · unfold fm4 badT at h
                split at h
                · cases h; decide
                · split at h
                  · split at h
                    · cases h; decide
                    · unfold fm5 badT at h
                      split at h
                      · cases h; decide
                      · exact fmA_bad _ _ _ h
                  · cases h; decide
            · cases h; decide
        · cases h; decide
    · cases h; decide
theorem fromP_di {d : Int} (h : (fromP d).2 = 0) : DI d ∧ d ≠ 0 := by
  unfold fromP at h
  unfold DI
  split at h
  · simp at h
  · split at h
    · simp at h
    · omega
theorem ncE_di : ∀ {X : List Int}, ncE X = 0 → ∀ x ∈ X, DI x ∧ x ≠ 0
  | [], _, x, hx => by cases hx
  | d :: r, h, x, hx => by
    unfold ncE at h
    by_cases z : (fromP d).2 = 0
    · rcases List.mem_cons.1 hx with q | q
      · subst q; exact fromP_di z
      · exact ncE_di (by simpa [z] using h) x q
    · simp [z] at h
theorem mv_top {A : List Int} (h : ∀ x ∈ A, DI x ∧ x ≠ 0) : ∃ v : Nat, 1 ≤ v ∧ v ≤ 16777216 ∧ mvP A (v : Int) = 0 := by
  refine ⟨16777216, by decide, by decide, ?_⟩
  have h1 : memP A ((16777216 : Nat) : Int) = false := by
    rw [Bool.eq_false_iff]
    intro z
    have := (h _ ((mem_iff _ _).1 z)).1
    unfold DI at this
    omega
  have h2 : memP A (-((16777216 : Nat) : Int)) = false := by
    rw [Bool.eq_false_iff]
    intro z
    have := (h _ ((mem_iff _ _).1 z)).1
    unfold DI at this
    omega
  unfold mvP
  rw [h1, h2]
  rfl
theorem mv_rng (A : List Int) (d : Int) : -1 ≤ mvP A d ∧ mvP A d ≤ 1 := by
  unfold mvP
  split
  · omega
  · split <;> omega
theorem em_rng (C A : List Int) : -1 ≤ emP C A ∧ emP C A ≤ 1 := by
  unfold emP
  split
  · omega
  · split <;> omega
theorem mef_rng (F : List (List Int)) (A : List Int) : -1 ≤ mefP F A ∧ mefP F A ≤ 1 := by
  unfold mefP
  split
  · omega
  · split <;> omega
theorem asg_ok {z k : Nat} {A L : List Int} (hA : AOk2 z A) (hk : A.length ≤ k) (hL : ∀ x ∈ L, DI x ∧ x ≠ 0) : ∀ i, AOk2 (k + i) ((L.take i).foldl asgP A)
  | 0 => ⟨hk, hA.mem⟩
  | i + 1 => by
    have ih := asg_ok hA hk hL i
    cases hx : L[i]? with
    | none =>
      rw [List.take_add_one, hx]
      simp only [Option.toList_none, List.append_nil]
      exact ⟨by have := ih.len; omega, ih.mem⟩
    | some x =>
      rw [List.take_add_one, hx]
      simp only [Option.toList_some, List.foldl_append, List.foldl_cons, List.foldl_nil]
      refine ⟨?_, fun y hy => ?_⟩
      · have h1 := List.length_filter_le (fun y => absP y != absP x) ((L.take i).foldl asgP A)
        have h2 := ih.len
        unfold asgP
        rw [List.length_append, List.length_singleton]
        unfold asgP at h1 h2
        omega
      · unfold asgP at hy
        rcases List.mem_append.1 hy with q | q
        · exact ih.mem y (List.mem_filter.1 q).1
        · simp at q; subst q; exact hL y (List.mem_of_getElem? hx)
end Go.Proofs.Qxb6500773aGreat
