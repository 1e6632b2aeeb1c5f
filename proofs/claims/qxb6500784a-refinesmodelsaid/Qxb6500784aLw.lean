import Derived.Test.Qxb6500784aLg
namespace Go.Proofs.Qxb6500784a
open Go.RowKit

/-! ### Results -/
structure Rs where
  code : Int
  failed : Int
  ord : List Int
  rcs : List Rcp
  stm : List Msg
  gas : Int
  ra : List Int
  rb : List Int
  vo : Value
def u8s (l : List Int) : List Value := l.map (Value.int .u8)
def i64s (l : List Int) : List Value := l.map (Value.int .i64)
def Rs.vals (r : Rs) (vo vr vs : Value) : List Value := .int .i64 r.code :: .int .i64 r.failed :: vo :: vr :: vs :: .int .u64 r.gas :: (u8s r.ra ++ u8s r.rb)
structure Rs.Ok (r : Rs) : Prop where
  al : r.ra.length = 32
  bl : r.rb.length = 32
  rc : ∀ x, x ∈ r.rcs → x.Ok
  sm : ∀ m, m ∈ r.stm → MsgOk m
theorem Rs.len {r : Rs} (h : r.Ok) (vo vr vs : Value) : (r.vals vo vr vs).length = 70 := by simp [Rs.vals, u8s, h.al, h.bl]
theorem u8s_one (l : List Int) : ∀ u ∈ u8s l, u.oneCell' = true := fun u hu => by
  obtain ⟨x, _, rfl⟩ := List.mem_map.1 hu; rfl
theorem Rs.one (r : Rs) {vo vr vs : Value} (h1 : vo.oneCell' = true) (h2 : vr.oneCell' = true) (h3 : vs.oneCell' = true) : ∀ u ∈ r.vals vo vr vs, u.oneCell' = true := fun u hu => by
  simp only [Rs.vals, List.mem_cons, List.mem_append] at hu
  rcases hu with rfl | rfl | rfl | rfl | rfl | rfl | hu | hu <;> first | rfl | assumption | exact u8s_one _ u hu
/-- A result's lists. -/
structure RL (w : World) (r : Rs) (vo vr vs : Value) (C : List Nat) : Prop where
  o : w.ownsRow 0 3 1 vo r.ord.length (i64s r.ord)
  q : w.ownsRow 0 89 87 vr r.rcs.length (r.rcs.flatMap Rcp.vals)
  s : w.ownsRow 0 68 41 vs r.stm.length (r.stm.flatMap msv)
  c : C = blks [vo, vr, vs]
  nd : C.Nodup
  e : vo = r.vo
theorem RL.lt {w : World} {r : Rs} {vo vr vs : Value} {C : List Nat} (h : RL w r vo vr vs C) {k : Nat} (hk : k ∈ C) : k < w.heap.size := by
  rw [h.c] at hk
  obtain ⟨v, hv, e⟩ := mem_blks.1 hk
  simp only [List.mem_cons, List.not_mem_nil, or_false] at hv
  rcases hv with rfl | rfl | rfl
  · exact (h.o.lt k e).2
  · exact (h.q.lt k e).2
  · exact (h.s.lt k e).2
theorem RL.keep {w w' : World} {r : Rs} {vo vr vs : Value} {C : List Nat} {Z : Nat → Prop} (h : RL w r vo vr vs C) (ex : Ex Z w w') (hz : ∀ k, k ∈ C → ¬ Z k) : RL w' r vo vr vs C := by
  have hz' : ∀ v, v ∈ [vo, vr, vs] → ∀ k, v.ownBlock = some k → ¬ Z k := fun v hv k hk => hz k (by rw [h.c]; exact mem_blks.2 ⟨v, hv, hk⟩)
  exact ⟨own_kept h.o ex (hz' vo (by simp)), own_kept h.q ex (hz' vr (by simp)), own_kept h.s ex (hz' vs (by simp)), h.c, h.nd, h.e⟩
/-- The pair at block b and a result at block d. -/
structure RW (w : World) (b : Nat) (P : Pr) (S : List Nat) (d : Nat) (r : Rs) (C : List Nat) : Prop where
  pp : PP w b P S
  rl : ∃ vo vr vs, w.rangeAt d 0 (r.vals vo vr vs) ∧ RL w r vo vr vs C
  th : w.there d 0 70
  ok : r.Ok
  dl : d < w.heap.size
  db : d ≠ b
  dS : d ∉ S
  dC : d ∉ C
  bC : b ∉ C
  SC : ∀ k, k ∈ S → k ∉ C
theorem RW.lt {w : World} {b : Nat} {P : Pr} {S : List Nat} {d : Nat} {r : Rs} {C : List Nat} (h : RW w b P S d r C) {k : Nat} (hk : k ∈ C) : k < w.heap.size := by
  obtain ⟨vo, vr, vs, _, h2⟩ := h.rl
  exact h2.lt hk
theorem PP.nb {w : World} {b : Nat} {P : Pr} {S : List Nat} (h : PP w b P S) : b ∉ S := by
  obtain ⟨f, h, rfl⟩ := h
  intro hb
  obtain ⟨i, hi, hk⟩ := mem5.1 hb
  exact h.nb hi hk
theorem PP.ex {w w' : World} {b : Nat} {P : Pr} {S : List Nat} {Z : Nat → Prop} (h : PP w b P S) (ex : Ex Z w w') (h1 : ¬ Z b) (h2 : ∀ k, k ∈ S → ¬ Z k) : PP w' b P S := by
  obtain ⟨f, h, rfl⟩ := h
  have hb := h.pa.bl.1
  have z : ∀ i, i < 5 → ∀ k, k ∈ f i → ¬ Z k := fun i hi k hk => h2 k (mem5.2 ⟨i, hi, hk⟩)
  have bex : ∀ {o x sv B}, BA w b o x sv B → (∀ k, k ∈ B → ¬ Z k) → BA w' b o x sv B := fun {o x sv B} hh hz => by
    obtain ⟨sw, u, v, s, a1, a2, a3, a4, a5, a6⟩ := hh
    exact ⟨sw, u, v, s, a1, a2.ex a5 ex h1 hz, a3, a4, Nat.lt_of_lt_of_le a5 ex.size, a6⟩
  exact ⟨f, ⟨h.pa.ex ex h1 (z 0 (by omega)), h.pb.ex ex h1 (z 1 (by omega)), bex h.pc (z 2 (by omega)), bex h.pd (z 3 (by omega)), bex h.pe (z 4 (by omega)), h.dj⟩, rfl⟩
/-- A local variable, apart from all these. -/
structure Loc (w : World) (b : Nat) (S : List Nat) (d : Nat) (C : List Nat) (q : Nat) (cs : List Value) : Prop where
  rg : w.rangeAt q 0 cs
  th : w.there q 0 cs.length
  lt : q < w.heap.size
  nb : q ≠ b
  nS : q ∉ S
  nd : q ≠ d
  nC : q ∉ C
structure LW (w0 : World) (b d : Nat) (S0 C0 : List Nat) (w : World) (P : Pr) (S : List Nat) (r : Rs) (C : List Nat) (X : List (Nat × List Value)) : Prop where
  rw : RW w b P S d r C
  lo : ∀ p, p ∈ X → Loc w b S d C p.1 p.2
  ex : Ex (fun k => k = b ∨ k ∈ S0 ∨ k = d ∨ k ∈ C0) w0 w
  fs : ∀ k, k ∈ S → k ∈ S0 ∨ w0.heap.size ≤ k
  fc : ∀ k, k ∈ C → k ∈ C0 ∨ w0.heap.size ≤ k
  ap : (X.map (·.1)).Nodup
theorem LW.refl {w : World} {b : Nat} {P : Pr} {S : List Nat} {d : Nat} {r : Rs} {C : List Nat} (h : RW w b P S d r C) : LW w b d S C w P S r C [] := ⟨h, fun _ h => absurd h (by simp), Ex.refl _ _, fun _ h => .inl h, fun _ h => .inl h, by simp⟩
section
variable {w0 : World} {b d : Nat} {S0 C0 : List Nat} {w : World} {P : Pr} {S : List Nat} {r : Rs} {C : List Nat} {X : List (Nat × List Value)}
theorem RW.keep {w' : World} {Z : Nat → Prop} (h : RW w b P S d r C) (ex : Ex Z w w') (hb : ¬ Z b) (hd : ¬ Z d) (hS : ∀ k, k ∈ S → ¬ Z k) (hC : ∀ k, k ∈ C → ¬ Z k) : RW w' b P S d r C := by
  obtain ⟨vo, vr, vs, h1, h2⟩ := h.rl
  exact ⟨h.pp.ex ex hb hS, ⟨vo, vr, vs, range_ex h1 h.dl ex hd, h2.keep ex hC⟩, there_ex h.th h.dl ex hd, h.ok, Nat.lt_of_lt_of_le h.dl ex.size, h.db, h.dS, h.dC, h.bC, h.SC⟩
theorem LW.below {w' : World} (h : LW w0 b d S0 C0 w P S r C X) (k : Below w.heap.size w w') : LW w0 b d S0 C0 w' P S r C X := by
  have ex : Ex (fun _ => False) w w' := Ex.of k
  refine ⟨h.rw.keep ex id id (fun _ _ => id) (fun _ _ => id), fun p hp => ?_, h.ex.trans (Ex.of k), h.fs, h.fc, h.ap⟩
  have l := h.lo p hp
  exact ⟨range_ex l.rg l.lt ex id, there_ex l.th l.lt ex id, Nat.lt_of_lt_of_le l.lt ex.size, l.nb, l.nS, l.nd, l.nC⟩
theorem RW.lts (h : RW w b P S d r C) {k : Nat} (hk : k ∈ S) : k < w.heap.size := h.pp.lt hk
/-- A new variable. -/
theorem LW.alloc (h : LW w0 b d S0 C0 w P S r C X) (cs : List Value) (t : Nat) : LW w0 b d S0 C0 (w.alloc (.cells cs.toArray t)) P S r C ((w.heap.size, cs) :: X) := by
  have h2 := h.below (be1 w (.cells cs.toArray t))
  have hb := h.rw.pp.bl
  have hd := h.rw.dl
  refine ⟨h2.rw, fun p hp => ?_, h2.ex, h2.fs, h2.fc, ?_⟩
  · rcases List.mem_cons.1 hp with rfl | hp
    · exact ⟨newR w cs t, newT w cs t, by simp, by show w.heap.size ≠ b; omega, fun e => by have := h.rw.lts e; omega, by show w.heap.size ≠ d; omega, fun e => by have := h.rw.lt e; omega⟩
    · exact h2.lo p hp
  · rw [List.map_cons, List.nodup_cons]
    refine ⟨fun e => ?_, h.ap⟩
    obtain ⟨p, hp, e⟩ := List.mem_map.1 e
    have := (h.lo p hp).lt
    omega
/-- The pair has moved. -/
theorem LW.ps {w' : World} {P' : Pr} (h : LW w0 b d S0 C0 w P S r C X) (k : PStep w b S P' w') : ∃ S', LW w0 b d S0 C0 w' P' S' r C X := by
  obtain ⟨ex, S', hp, hS⟩ := k
  have out : ∀ q, q < w.heap.size → q ≠ b → q ∉ S → ¬ (q = b ∨ q ∈ S) ∧ q ∉ S' := fun q h1 h2 h3 => ⟨fun e => e.elim h2 h3, fun e => by
    rcases hS q e with z | z
    · exact h3 z
    · omega⟩
  have hnb := h.rw.pp.nb
  obtain ⟨vo, vr, vs, h1, h2⟩ := h.rw.rl
  have od := out d h.rw.dl h.rw.db h.rw.dS
  have oC : ∀ k, k ∈ C → ¬ (k = b ∨ k ∈ S) ∧ k ∉ S' := fun k hk => out k (h.rw.lt hk) (fun e => h.rw.bC (e ▸ hk)) (fun e => h.rw.SC k e hk)
  refine ⟨S', ⟨⟨hp, ⟨vo, vr, vs, range_ex h1 h.rw.dl ex od.1, h2.keep ex (fun k hk => (oC k hk).1)⟩, there_ex h.rw.th h.rw.dl ex od.1, h.rw.ok, Nat.lt_of_lt_of_le h.rw.dl ex.size, h.rw.db, od.2, h.rw.dC, h.rw.bC, fun k hk hc => (oC k hc).2 hk⟩, fun p hp' => ?_, h.ex.trans2 ex (fun j hj => ?_), fun j hj => ?_, h.fc, h.ap⟩⟩
  · have l := h.lo p hp'
    have o1 := out p.1 l.lt l.nb l.nS
    exact ⟨range_ex l.rg l.lt ex o1.1, there_ex l.th l.lt ex o1.1, Nat.lt_of_lt_of_le l.lt ex.size, l.nb, o1.2, l.nd, l.nC⟩
  · rcases hj with rfl | hj
    · exact .inl (.inl rfl)
    · exact (h.fs j hj).imp (fun z => .inr (.inl z)) id
  · rcases hS j hj with z | z
    · exact h.fs j z
    · right; have := h.ex.size; omega
/-- A local variable is set, whole. -/
theorem LW.setX (h : LW w0 b d S0 C0 w P S r C X) {q : Nat} {cs : List Value} (hq : (q, cs) ∈ X) (hn : w0.heap.size ≤ q) {w' : World} (ex : Ex (fun k => k = q) w w') : LW w0 b d S0 C0 w' P S r C (X.filter (fun p => p.1 != q)) := by
  have l := h.lo _ hq
  refine ⟨h.rw.keep ex (fun e => l.nb e.symm) (fun e => l.nd e.symm) (fun k hk e => l.nS (e ▸ hk)) (fun k hk e => l.nC (e ▸ hk)), fun p hp => ?_, h.ex.trans2 ex (fun j hj => .inr (by rw [hj]; exact hn)), h.fs, h.fc, ?_⟩
  · rw [List.mem_filter] at hp
    have hne : p.1 ≠ q := by simpa using hp.2
    have l' := h.lo p hp.1
    exact ⟨range_ex l'.rg l'.lt ex hne, there_ex l'.th l'.lt ex hne, Nat.lt_of_lt_of_le l'.lt ex.size, l'.nb, l'.nS, l'.nd, l'.nC⟩
  · exact List.Nodup.sublist (List.Sublist.map _ List.filter_sublist) h.ap
theorem LW.drop (h : LW w0 b d S0 C0 w P S r C X) {Y : List (Nat × List Value)} (hs : Y.Sublist X) : LW w0 b d S0 C0 w P S r C Y := ⟨h.rw, fun p hp => h.lo p (hs.subset hp), h.ex, h.fs, h.fc, h.ap.sublist (hs.map _)⟩
/-- .. which holds cs' then. -/
theorem LW.setC (h : LW w0 b d S0 C0 w P S r C X) {q : Nat} {cs : List Value} (hq : (q, cs) ∈ X) (hn : w0.heap.size ≤ q) {w' : World} (ex : Ex (fun k => k = q) w w') {cs' : List Value} (hr : w'.rangeAt q 0 cs') (ht : w'.there q 0 cs'.length) : LW w0 b d S0 C0 w' P S r C ((q, cs') :: X.filter (fun p => p.1 != q)) := by
  have l := h.lo _ hq
  have h2 := h.setX hq hn ex
  refine ⟨h2.rw, fun p hp => ?_, h2.ex, h2.fs, h2.fc, ?_⟩
  · rcases List.mem_cons.1 hp with rfl | hp
    · exact ⟨hr, ht, Nat.lt_of_lt_of_le l.lt ex.size, l.nb, l.nS, l.nd, l.nC⟩
    · exact h2.lo p hp
  · rw [List.map_cons, List.nodup_cons]
    refine ⟨fun e => ?_, h2.ap⟩
    obtain ⟨p, hp, e⟩ := List.mem_map.1 e
    rw [List.mem_filter] at hp
    exact (by simpa using hp.2 : p.1 ≠ q) e
/-- A cell of the result is set. -/
theorem LW.setR (h : LW w0 b d S0 C0 w P S r C X) {j : Nat} (u : Value) (r' : Rs) (he : ∀ vo vr vs, (r.vals vo vr vs).set j u = r'.vals vo vr vs) (e1 : r'.ord = r.ord) (e2 : r'.rcs = r.rcs) (e3 : r'.stm = r.stm) (ho : r'.Ok) (e4 : r'.vo = r.vo := by rfl) : LW w0 b d S0 C0 (w.setCell ⟨d, j, none⟩ u) P S r' C X := by
  have ex : Ex (fun k => k = d) w (w.setCell ⟨d, j, none⟩ u) := (Ex.refl (fun k => k = d) _).set rfl u
  obtain ⟨vo, vr, vs, h1, h2⟩ := h.rw.rl
  have h3 := h2.keep ex (fun k hk e => h.rw.dC (e ▸ hk))
  refine ⟨⟨h.rw.pp.ex ex (fun e => h.rw.db e.symm) (fun k hk e => h.rw.dS (e ▸ hk)), ⟨vo, vr, vs, ?_, ⟨by rw [e1]; exact h3.o, by rw [e2]; exact h3.q, by rw [e3]; exact h3.s, h3.c, h3.nd, h3.e.trans e4.symm⟩⟩, there_set h.rw.th _ _, ho, by simpa using h.rw.dl, h.rw.db, h.rw.dS, h.rw.dC, h.rw.bC, h.rw.SC⟩, fun p hp => ?_, h.ex.trans2 ex (fun j hj => .inl (.inr (.inr (.inl hj)))), h.fs, h.fc, h.ap⟩
  · have := range_set h1 j u
    rw [Nat.zero_add, he] at this
    exact this
  · have l := h.lo p hp
    exact ⟨range_ex l.rg l.lt ex l.nd, there_ex l.th l.lt ex l.nd, Nat.lt_of_lt_of_le l.lt ex.size, l.nb, l.nS, l.nd, l.nC⟩
/-- Cells of the result are set. -/
theorem LW.setsR (h : LW w0 b d S0 C0 w P S r C X) {j : Nat} (us : List Value) (r' : Rs) (he : ∀ vo vr vs, ∃ pre old post, r.vals vo vr vs = pre ++ (old ++ post) ∧ pre.length = j ∧ old.length = us.length ∧ r'.vals vo vr vs = pre ++ (us ++ post)) (hj : j + us.length ≤ 70) (e1 : r'.ord = r.ord) (e2 : r'.rcs = r.rcs) (e3 : r'.stm = r.stm) (ho : r'.Ok) (e4 : r'.vo = r.vo := by rfl) : LW w0 b d S0 C0 (w.setCells d j us) P S r' C X := by
  have ex : Ex (fun k => k = d) w (w.setCells d j us) := Ex.sets (S := fun k => k = d) rfl _ _ _ (Ex.refl _ _)
  obtain ⟨vo, vr, vs, h1, h2⟩ := h.rw.rl
  have h3 := h2.keep ex (fun k hk e => h.rw.dC (e ▸ hk))
  refine ⟨⟨h.rw.pp.ex ex (fun e => h.rw.db e.symm) (fun k hk e => h.rw.dS (e ▸ hk)), ⟨vo, vr, vs, ?_, ⟨by rw [e1]; exact h3.o, by rw [e2]; exact h3.q, by rw [e3]; exact h3.s, h3.c, h3.nd, h3.e.trans e4.symm⟩⟩, World.there_setCells h.rw.th _ _ _, ho, Nat.lt_of_lt_of_le h.rw.dl ex.size, h.rw.db, h.rw.dS, h.rw.dC, h.rw.bC, h.rw.SC⟩, fun p hp => ?_, h.ex.trans2 ex (fun j hj => .inl (.inr (.inr (.inl hj)))), h.fs, h.fc, h.ap⟩
  · obtain ⟨pre, old, post, a1, a2, a3, a4⟩ := he vo vr vs
    rw [a1] at h1
    rw [a4]
    have := range_sets (new := us) h1 a3 (by have := there_sub (k := j) (m := us.length) h.rw.th hj; rw [Nat.zero_add] at this; rw [a2]; exact this)
    rw [a2] at this
    exact this
  · have l := h.lo p hp
    exact ⟨range_ex l.rg l.lt ex l.nd, there_ex l.th l.lt ex l.nd, Nat.lt_of_lt_of_le l.lt ex.size, l.nb, l.nS, l.nd, l.nC⟩
theorem nodup3 {a c x x' : Value} {w : World} (hlt : ∀ k, k ∈ blks [a, x, c] → k < w.heap.size) (h : (blks [a, x, c]).Nodup) (hat : ∀ j, x'.ownBlock = some j → x.ownBlock = some j ∨ w.heap.size ≤ j) : (blks [a, x', c]).Nodup :=
  nodup_repl (a := [a]) (c := [c]) h (fun j hj => (hat j hj).imp id fun z e => by have := hlt j e; omega)
theorem nodup3' {a c x x' : Value} {w : World} (hlt : ∀ k, k ∈ blks [a, c, x] → k < w.heap.size) (h : (blks [a, c, x]).Nodup) (hat : ∀ j, x'.ownBlock = some j → x.ownBlock = some j ∨ w.heap.size ≤ j) : (blks [a, c, x']).Nodup :=
  nodup_repl (a := [a, c]) (c := []) h (fun j hj => (hat j hj).imp id fun z e => by have := hlt j e; omega)
theorem blks_sub3 {p q : List Value} {v v' : Value} {w : World} (hat : ∀ j, v'.ownBlock = some j → v.ownBlock = some j ∨ w.heap.size ≤ j) {j : Nat} (hj : j ∈ blks (p ++ v' :: q)) : j ∈ blks (p ++ v :: q) ∨ w.heap.size ≤ j := by
  have := grow_sub (w := w) (p := p) (q := q) (c := []) hat (by simpa using hj)
  simpa using this
/-- One of the result's lists grows. -/
theorem LW.grown (h : LW w0 b d S0 C0 w P S r C X) {vo vr vs : Value} (h1 : w.rangeAt d 0 (r.vals vo vr vs)) (h2 : RL w r vo vr vs C) {i : Nat} {v v' : Value} {w' : World} (hi : (v = vr ∧ i = 3) ∨ (v = vs ∧ i = 4)) (hg : w.grownBy w' v.ownBlock) (hat : ∀ j, v'.ownBlock = some j → v.ownBlock = some j ∨ w.heap.size ≤ j)
    (r' : Rs) (hok : r'.Ok) (e0 : r'.ord = r.ord) (hv : ∀ v1 v2 v3, (r.vals v1 v2 v3).set i v' = r'.vals v1 (if i = 3 then v' else v2) (if i = 4 then v' else v3))
    (hr : w'.ownsRow 0 89 87 (if i = 3 then v' else vr) r'.rcs.length (r'.rcs.flatMap Rcp.vals) ∨ i = 4 ∧ r'.rcs = r.rcs) (hs : w'.ownsRow 0 68 41 (if i = 4 then v' else vs) r'.stm.length (r'.stm.flatMap msv) ∨ i = 3 ∧ r'.stm = r.stm) (e4 : r'.vo = r.vo := by rfl) :
    ∃ C', LW w0 b d S0 C0 (w'.setCell ⟨d, i, none⟩ v') P S r' C' X := by
  have ex : Ex (fun j => v.ownBlock = some j) w w' := Ex.ofGrown hg fun j e => e.symm
  have hvC : ∀ j, v.ownBlock = some j → j ∈ C := fun j hj => by
    rw [h2.c]
    rcases hi with ⟨rfl, _⟩ | ⟨rfl, _⟩ <;> exact mem_blks.2 ⟨_, by simp, hj⟩
  have ex2 : Ex (fun j => v.ownBlock = some j ∨ j = d) w (w'.setCell ⟨d, i, none⟩ v') := (ex.mono fun k hk => .inl hk).set (.inr rfl) v'
  have nd := h2.nd
  rw [h2.c] at nd
  have hlt : ∀ k, k ∈ blks [vo, vr, vs] → k < w.heap.size := fun k hk => h2.lt (by rw [h2.c]; exact hk)
  obtain ⟨C', hC'⟩ : ∃ C', blks [vo, if i = 3 then v' else vr, if i = 4 then v' else vs] = C' := ⟨_, rfl⟩
  have hsub : ∀ j, j ∈ C' → j ∈ C ∨ w.heap.size ≤ j := fun j hj => by
    rw [← hC'] at hj
    rw [h2.c]
    rcases hi with ⟨rfl, rfl⟩ | ⟨rfl, rfl⟩
    · exact blks_sub3 (p := [vo]) (q := [vs]) hat hj
    · exact blks_sub3 (p := [vo, vr]) (q := []) hat hj
  have hnd : C'.Nodup := by
    rw [← hC']
    rcases hi with ⟨rfl, rfl⟩ | ⟨rfl, rfl⟩
    · exact nodup3 hlt nd hat
    · exact nodup3' hlt nd hat
  have apd : ∀ k, k ∈ C' → k ≠ d := fun k hk e => by
    rcases hsub k hk with z | z
    · exact h.rw.dC (e ▸ z)
    · have := h.rw.dl; omega
  have exd : Ex (fun j => j = d) w' (w'.setCell ⟨d, i, none⟩ v') := (Ex.refl (fun k => k = d) _).set rfl v'
  have ndo : ∀ j, vo.ownBlock = some j → v.ownBlock ≠ some j := fun j hj e => by
    have nd' : (blks ([vo] ++ vr :: [vs])).Nodup := nd
    rw [blks3, List.nodup_append] at nd'
    have m1 : j ∈ blks [vo] := mem_blks.2 ⟨vo, by simp, hj⟩
    rcases hi with ⟨rfl, _⟩ | ⟨rfl, _⟩
    · exact nd'.2.2 j m1 j (List.mem_append_left _ (by simpa using e)) rfl
    · exact nd'.2.2 j m1 j (List.mem_append_right _ (mem_blks.2 ⟨_, by simp, e⟩)) rfl
  have ndrs : ∀ j, vr.ownBlock = some j → vs.ownBlock ≠ some j := fun j hj e => by
    have nd' : (blks ([vo] ++ vr :: [vs])).Nodup := nd
    rw [blks3, List.nodup_append] at nd'
    exact (List.nodup_append.1 nd'.2.1).2.2 j (by simpa using hj) j (mem_blks.2 ⟨vs, by simp, e⟩) rfl
  have hoC : ∀ k, vo.ownBlock = some k → k ∈ C' := fun k hk => by rw [← hC']; exact mem_blks.2 ⟨vo, by simp, hk⟩
  have ho' : (w'.setCell ⟨d, i, none⟩ v').ownsRow 0 3 1 vo r'.ord.length (i64s r'.ord) := by
    rw [e0]
    exact own_kept (own_kept h2.o ex ndo) exd (fun k hk => apd k (hoC k hk))
  have hr' : (w'.setCell ⟨d, i, none⟩ v').ownsRow 0 89 87 (if i = 3 then v' else vr) r'.rcs.length (r'.rcs.flatMap Rcp.vals) := by
    have m : ∀ k, (if i = 3 then v' else vr).ownBlock = some k → k ∈ C' := fun k hk => by rw [← hC']; exact mem_blks.2 ⟨_, by simp, hk⟩
    rcases hr with hr | ⟨rfl, e⟩
    · exact own_kept hr exd (fun k hk => apd k (m k hk))
    · rw [e]
      have hv' : v = vs := by rcases hi with ⟨_, z⟩ | ⟨z, _⟩; cases z; exact z
      subst hv'
      exact own_kept (own_kept h2.q ex ndrs) exd (fun k hk => apd k (m k hk))
  have hs' : (w'.setCell ⟨d, i, none⟩ v').ownsRow 0 68 41 (if i = 4 then v' else vs) r'.stm.length (r'.stm.flatMap msv) := by
    have m : ∀ k, (if i = 4 then v' else vs).ownBlock = some k → k ∈ C' := fun k hk => by rw [← hC']; exact mem_blks.2 ⟨_, by simp, hk⟩
    rcases hs with hs | ⟨rfl, e⟩
    · exact own_kept hs exd (fun k hk => apd k (m k hk))
    · rw [e]
      have hv' : v = vr := by rcases hi with ⟨z, _⟩ | ⟨_, z⟩; exact z; cases z
      subst hv'
      exact own_kept (own_kept h2.s ex (fun k hk e => ndrs k e hk)) exd (fun k hk => apd k (m k hk))
  have nz : ∀ q, q < w.heap.size → q ≠ d → q ∉ C → ¬ (v.ownBlock = some q ∨ q = d) ∧ q ∉ C' := fun q h1 h2 h3 => ⟨fun e => e.elim (fun z => h3 (hvC q z)) h2, fun e => by
    rcases hsub q e with z | z
    · exact h3 z
    · omega⟩
  have nzb := nz b h.rw.pp.bl (fun e => h.rw.db e.symm) h.rw.bC
  have nzS : ∀ k, k ∈ S → ¬ (v.ownBlock = some k ∨ k = d) ∧ k ∉ C' := fun k hk => nz k (h.rw.lts hk) (fun e => h.rw.dS (e ▸ hk)) (h.rw.SC k hk)
  refine ⟨C', ⟨h.rw.pp.ex ex2 nzb.1 (fun k hk => (nzS k hk).1), ⟨vo, _, _, ?_, ⟨ho', hr', hs', hC'.symm, hnd, h2.e.trans e4.symm⟩⟩, there_set (there_ex h.rw.th h.rw.dl ex (fun e => h.rw.dC (hvC d e))) _ _, hok, by simpa using Nat.lt_of_lt_of_le h.rw.dl ex.size, h.rw.db, h.rw.dS, fun e => apd d e rfl, nzb.2, fun k hk => (nzS k hk).2⟩, fun p hp => ?_, h.ex.trans2 ex2 (fun j hj => ?_), h.fs, fun k hk => ?_, h.ap⟩
  · have := range_set (range_ex h1 h.rw.dl ex (fun e => h.rw.dC (hvC d e))) i v'
    rw [Nat.zero_add, hv] at this
    exact this
  · have l := h.lo p hp
    have o1 := nz p.1 l.lt l.nd l.nC
    exact ⟨range_ex l.rg l.lt ex2 o1.1, there_ex l.th l.lt ex2 o1.1, Nat.lt_of_lt_of_le l.lt ex2.size, l.nb, l.nS, l.nd, o1.2⟩
  · rcases hj with z | z
    · exact (h.fc j (hvC j z)).imp (fun y => .inr (.inr (.inr y))) id
    · exact .inl (.inr (.inr (.inl z)))
  · rcases hsub k hk with z | z
    · exact h.fc k z
    · right; have := h.ex.size; omega
end
/-! ### A leg's plain step -/
def legC (P : Pr) (c : Int) (t : List Int) : Int :=
  if refP (P.led c) t ≠ 0 then refP (P.led c) t
  else if fld t 0 = 3 ∨ fld t 0 = 5 then conP (P.box c) (P.box (fld t 43)) (txMsg t)
  else if fld t 0 = 2 ∨ fld t 0 = 4 then sndP (P.box c) else 0
def sntM (l : Led0) (t : List Int) : Msg := if fld t 0 = 2 then burnM l t else sendM l t
def legS (P : Pr) (c : Int) (t : List Int) : Pr :=
  if refP (P.led c) t ≠ 0 then P
  else if fld t 0 = 3 ∨ fld t 0 = 5 then (P.setL c (appL (P.led c) t) (P.sled c)).setB c (conB (P.box c) (P.box (fld t 43)) (txMsg t)) (P.sbox c)
  else if fld t 0 = 2 ∨ fld t 0 = 4 then (P.setL c (appL (P.led c) t) (P.sled c)).setB c (sndB (P.box c) (sntM (P.led c) t)) (P.sbox c)
  else P.setL c (appL (P.led c) t) (P.sled c)
def legR (P : Pr) (c : Int) (t : List Int) (r : Rs) : Rs :=
  { r with rcs := r.rcs ++ [appR (P.led c) t], stm := if fld t 0 = 2 ∨ fld t 0 = 4 then r.stm ++ [stamp (P.box c) (sntM (P.led c) t)] else r.stm, gas := w64 (r.gas + gasP t) }
end Go.Proofs.Qxb6500784a
