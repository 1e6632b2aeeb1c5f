import Derived.Test.Qxb6500784aAr
namespace Go.Proofs.Qxb6500784a
open Go.RowKit

/-! ### The other effects -/
theorem yieldsIf_build {P : Program} {ops : Array Oper} {S : World → Prop} {op : Oper} {a : Act} (hw : Region.wanted op (yielded ops a.tmps) = true) (t : TypeId) (parts : List (Nat × Operand)) (ho : op.op = .build t parts.toArray)
    (cells : Array Value) (hf : P.built t (parts.map fun p => (p.1, a.eval p.2)) = some cells) : YieldsIf P ops S op (.agg cells) a :=
  .inl ⟨hw, fun w _ => by
    have e : (parts.toArray.map fun (i, x) => (i, a.eval x)).toList = parts.map fun p => (p.1, a.eval p.2) := by simp
    unfold execOp
    simp only [ho, Sem.run_bind, run_build w t _ cells (by rw [e]; exact hf), Result.andThen_ok]
    rfl⟩
/-- The messages that a burn and a send make. -/
def burnM (l : Led0) (t : List Int) : Msg := [2, l.ch, fld t 6, fld t 2, fld t 5, 0, fld t 7, fld t 8] ++ List.replicate 33 0
def sendM (l : Led0) (t : List Int) : Msg := [1, l.ch, fld t 6, fld t 2, fld t 5, 0, 0, 0, fld t 9] ++ (t.drop 10).take 32
theorem kok_cons {n : Nat} {k : Nat → IntKind} {x : Int} {m : List Int} (h0 : 0 ≤ x) (h1 : x < lim (k 0)) (h : KOk (fun j => k (j + 1)) n m) : KOk k (n + 1) (x :: m) :=
  ⟨by simp [h.l], fun j y hj => by
    cases j with
    | zero => simp at hj; subst hj; exact ⟨h0, h1⟩
    | succ j => exact h.r j y (by simpa using hj)⟩
theorem burnM_ok {l : Led0} {t : List Int} (hl : l.Ok) (ht : TxOk t) : MsgOk (burnM l t) := by
  have z : KOk (fun j => mkd (j + 1 + 1 + 1 + 1 + 1 + 1 + 1 + 1)) 33 (List.replicate 33 0) := ⟨by simp, fun j x hj => by
    rw [List.getElem?_replicate] at hj
    split at hj
    · cases hj; exact ⟨by omega, by unfold lim; split <;> omega⟩
    · cases hj⟩
  have r := fun (j : Nat) (hj : j < 83) => fld_r ht (j := j) hj
  exact kok_cons (by omega) (by decide) (kok_cons hl.c.1 hl.c.2 (kok_cons (r 6 (by omega)).1 (r 6 (by omega)).2 (kok_cons (r 2 (by omega)).1 (r 2 (by omega)).2 (kok_cons (r 5 (by omega)).1 (r 5 (by omega)).2
    (kok_cons (by omega) (by decide) (kok_cons (r 7 (by omega)).1 (r 7 (by omega)).2 (kok_cons (r 8 (by omega)).1 (r 8 (by omega)).2 z)))))))
theorem sendM_ok {l : Led0} {t : List Int} (hl : l.Ok) (ht : TxOk t) : MsgOk (sendM l t) := by
  have z : KOk (fun j => mkd (j + 1 + 1 + 1 + 1 + 1 + 1 + 1 + 1 + 1)) 32 ((t.drop 10).take 32) := ⟨by simp [ht.l], fun j x hj => by
    have hj' : j < 32 := by have := (List.getElem?_eq_some_iff.1 hj).1; simp [ht.l] at this; exact this
    rw [List.getElem?_take, if_pos hj', List.getElem?_drop] at hj
    have := ht.r _ _ hj
    have e : txk (10 + j) = .u8 := by unfold txk; rw [if_neg (by omega)]
    have e2 : mkd (j + 1 + 1 + 1 + 1 + 1 + 1 + 1 + 1 + 1) = .u8 := by unfold mkd; rw [if_neg (by omega)]
    rw [e] at this
    rw [e2]
    exact this⟩
  have r := fun (j : Nat) (hj : j < 83) => fld_r ht (j := j) hj
  exact kok_cons (by omega) (by decide) (kok_cons hl.c.1 hl.c.2 (kok_cons (r 6 (by omega)).1 (r 6 (by omega)).2 (kok_cons (r 2 (by omega)).1 (r 2 (by omega)).2 (kok_cons (r 5 (by omega)).1 (r 5 (by omega)).2
    (kok_cons (by omega) (by decide) (kok_cons (by omega) (by decide) (kok_cons (by omega) (by decide) (kok_cons (r 9 (by omega)).1 (r 9 (by omega)).2 z))))))))
theorem len32 {α : Type} {L : List α} (h : L.length = 32) : ∃ a0 a1 a2 a3 a4 a5 a6 a7 a8 a9 a10 a11 a12 a13 a14 a15 a16 a17 a18 a19 a20 a21 a22 a23 a24 a25 a26 a27 a28 a29 a30 a31, L = [a0, a1, a2, a3, a4, a5, a6, a7, a8, a9, a10, a11, a12, a13, a14, a15, a16, a17, a18, a19, a20, a21, a22, a23, a24, a25, a26, a27, a28, a29, a30, a31] := by
  match L, h with
  | [a0, a1, a2, a3, a4, a5, a6, a7, a8, a9, a10, a11, a12, a13, a14, a15, a16, a17, a18, a19, a20, a21, a22, a23, a24, a25, a26, a27, a28, a29, a30, a31], _ => exact ⟨a0, a1, a2, a3, a4, a5, a6, a7, a8, a9, a10, a11, a12, a13, a14, a15, a16, a17, a18, a19, a20, a21, a22, a23, a24, a25, a26, a27, a28, a29, a30, a31, rfl⟩
theorem built_burn (c d f r k a : Int) : Try.prog.built 68 [(0, .int .u8 2), (1, .int .u8 c), (2, .int .u8 d), (3, .int .u8 f), (4, .int .u8 r), (6, .int .u8 k), (7, .int .u64 a)] = some (msv ([2, c, d, f, r, 0, k, a] ++ List.replicate 33 0)).toArray := by kernel_rfl
theorem built_send (c d f r s : Int) {L : List Int} (hL : L.length = 32) : Try.prog.built 68 [(0, .int .u8 1), (1, .int .u8 c), (2, .int .u8 d), (3, .int .u8 f), (4, .int .u8 r), (8, .int .u8 s), (9, .agg (L.map (Value.int .u8)).toArray)] = some (msv ([1, c, d, f, r, 0, 0, 0, s] ++ L)).toArray := by
  obtain ⟨a0, a1, a2, a3, a4, a5, a6, a7, a8, a9, a10, a11, a12, a13, a14, a15, a16, a17, a18, a19, a20, a21, a22, a23, a24, a25, a26, a27, a28, a29, a30, a31, rfl⟩ := len32 hL
  kernel_rfl
/-- Cells in the middle of a range are set. -/
theorem range_sets {w : World} {b : Nat} {pre old new post : List Value} (h : w.rangeAt b 0 (pre ++ (old ++ post))) (hl : old.length = new.length) (ht : w.there b pre.length new.length) : (w.setCells b pre.length new).rangeAt b 0 (pre ++ (new ++ post)) := fun j v hv => by
  rw [Nat.zero_add]
  by_cases h4 : j < pre.length
  · rw [World.cell?_setCells_out b new pre.length w ⟨b, j, none⟩ (fun _ _ => .inl h4)]
    have := h j v (by rw [List.getElem?_append_left h4]; rwa [List.getElem?_append_left h4] at hv)
    rwa [Nat.zero_add] at this
  · rw [List.getElem?_append_right (by omega)] at hv
    by_cases h45 : j < pre.length + new.length
    · have hi : j - pre.length < new.length := by omega
      have := World.cell?_setCells_in b new pre.length w (fun i hi => (ht i hi).1) (j - pre.length) hi
      rw [show pre.length + (j - pre.length) = j by omega] at this
      rw [this]
      rw [List.getElem?_append_left hi, List.getElem?_eq_getElem hi] at hv
      exact hv
    · rw [World.cell?_setCells_out b new pre.length w ⟨b, j, none⟩ (fun _ _ => .inr (by show pre.length + new.length ≤ j; omega))]
      have := h j v (by
        rw [List.getElem?_append_right (by omega), List.getElem?_append_right (by omega)]
        rw [List.getElem?_append_right (by omega)] at hv
        rw [hl]; exact hv)
      rwa [Nat.zero_add] at this
theorem there_sub {w : World} {b o n k m : Nat} (h : w.there b o n) (hk : k + m ≤ n) : w.there b (o + k) m := fun j hj => by
  have := h (k + j) (by omega)
  rwa [← Nat.add_assoc] at this
theorem AS.setT {w0 w : World} {A : Nat} {V : List Value} {r : Rcp} {b o : Nat} {l : Led0} {sv : List Led0} {B B0 : List Nat} (h : AS w0 w A V r b o l sv B B0) (hr : r.Ok) (m : Msg) (hm : MsgOk m) : AS w0 (w.setCells (A + 2) 46 (msv m)) A V { r with took := m } b o l sv B B0 := by
  have hal := h.al
  have hbA := h.bA
  have heA := h.eA
  have ex : Ex (fun k => k = A + 2) w (w.setCells (A + 2) 46 (msv m)) := Ex.sets (S := fun k => k = A + 2) rfl _ _ _ (Ex.refl _ _)
  refine ⟨h.cg.grown (row := some (A + 2)) ⟨ex.os, ex.tape, ex.output, ex.size, fun k hk hne => ex.block k hk (fun e => hne (by rw [e]))⟩ (fun i hi => ?_) (by omega) (by simp; omega), range_ex h.tx (by omega) ex (by omega), there_ex h.rt (by omega) ex (by omega), ?_, World.there_setCells h.tr _ _ _, h.la.ex ex (by omega) (fun i hi e => ?_), h.sb, Nat.le_trans hal ex.size, hbA, heA⟩
  · have : A + 2 = i := by simpa using hi
    right; omega
  · have e1 : r.vals = (.int .i64 r.code :: .int .u64 r.gas :: .int .u64 r.fee :: .bool r.hs :: (msv r.sent ++ [.bool r.ht])) ++ (msv r.took ++ []) := by simp [Rcp.vals]
    have e2 : Rcp.vals { r with took := m } = (.int .i64 r.code :: .int .u64 r.gas :: .int .u64 r.fee :: .bool r.hs :: (msv r.sent ++ [.bool r.ht])) ++ (msv m ++ []) := by simp [Rcp.vals]
    have el : (.int .i64 r.code :: .int .u64 r.gas :: .int .u64 r.fee :: .bool r.hs :: (msv r.sent ++ [.bool r.ht]) : List Value).length = 46 := by simp [msv_len hr.s]
    have hh := h.rr
    rw [e1] at hh
    have := range_sets (new := msv m) hh (by rw [msv_len hr.t, msv_len hm]) (by rw [el, msv_len hm]; have := there_sub (k := 46) (m := 41) h.tr (by omega); rwa [Nat.zero_add] at this)
    rw [el] at this
    rw [e2]
    exact this
  · rcases h.sb i hi with z | z <;> omega
/-- The list of marks grows. -/
theorem LA.grow {w : World} {b o : Nat} {l : Led0} {sv : List Led0} {B : List Nat} (h : LA w b o l sv B) {v : Value} (hc : w.cell? ⟨b, o + 321, none⟩ = some v) :
    w.ownsRow 0 151 2 v l.mks.length (l.mks.flatMap markV) ∧ (∀ j, v.ownBlock = some j → j ∈ B) ∧ ∀ (w' : World) (v' : Value) (p : Int × Int), 0 ≤ p.1 ∧ p.1 < 256 ∧ 0 ≤ p.2 ∧ p.2 < m64 → w.grownBy w' v.ownBlock → w'.ownsRow 0 151 2 v' (l.mks.length + 1) (l.mks.flatMap markV ++ markV p) →
      (∀ j, v'.ownBlock = some j → v.ownBlock = some j ∨ w.heap.size ≤ j) → ∃ B', LA (w'.setCell ⟨b, o + 321, none⟩ v') b o { l with mks := l.mks ++ [p] } sv B' ∧ ∀ j, j ∈ B' → j ∈ B ∨ w.heap.size ≤ j := by
  obtain ⟨sw, m, s, h1, h2, h3, h4, h5, h6⟩ := h
  obtain ⟨hcv, hr, ht, rfl⟩ := h2
  have e : m = v := by
    have := hr 321 m (Led0.at321 h3 _ _)
    rw [hc] at this
    exact (Option.some.inj this).symm
  subst e
  have mB : ∀ j, m.ownBlock = some j → j ∈ blks ([m] ++ s :: (ledW sw).flatMap (·.2)) := fun j hj => mem_blks.2 ⟨m, by simp, hj⟩
  refine ⟨hcv.fl.2 0 _ m rfl rfl, mB, fun w' v' p hp hg hown hat => ?_⟩
  have hnb : m.ownBlock ≠ some b := fun e => h6 (mB b e)
  have ex : Ex (fun j => m.ownBlock = some j) w w' := Ex.ofGrown hg fun j e => e.symm
  have ok' : Led0.Ok { l with mks := l.mks ++ [p] } := ⟨h3.bl, h3.nl, h3.c, h3.b, h3.n, fun q hq => by
    rcases List.mem_append.1 hq with z | z
    · exact h3.m q z
    · have : q = p := by simpa using z
      subst this; exact hp, h3.g⟩
  have hc5 : CV w' 50 326 (Led0.fl { l with mks := l.mks ++ [p] }) (ledW sw) [v'] s := by
    refine CV.grow (p := []) (q := []) (rp := []) (r := ⟨151, 2, l.mks.length, l.mks.flatMap markV⟩) (rq := []) (r' := ⟨151, 2, (l.mks ++ [p]).length, (l.mks ++ [p]).flatMap markV⟩) hcv rfl rfl rfl hg ?_ hat
    rw [List.length_append, List.flatMap_append, show [p].flatMap markV = markV p by simp]
    exact hown
  have sub : ∀ j, j ∈ blks ([v'] ++ s :: (ledW sw).flatMap (·.2)) → j ∈ blks ([m] ++ s :: (ledW sw).flatMap (·.2)) ∨ w.heap.size ≤ j := fun j hj => grow_sub (p := []) (q := []) hat hj
  have hb' : b < w'.heap.size := Nat.lt_of_lt_of_le h5 ex.size
  refine ⟨_, ⟨sw, v', s, h1, ⟨hc5.keep (S := fun k => k = b) ((Ex.refl (fun k => k = b) _).set rfl _) (fun j hj e => ?_), ?_, there_set (there_ex ht h5 ex hnb) _ _, rfl⟩, ok', h4, by simpa using hb', fun e => ?_⟩, sub⟩
  · rcases sub j hj with z | z
    · exact h6 (e ▸ z)
    · omega
  · have := range_set (range_ex hr h5 ex hnb) 321 v'
    rw [show l.fl.lay [m] s = l.vals m s from rfl, Led0.set321 h3] at this
    exact this
  · rcases sub b e with z | z
    · exact h6 z
    · omega
theorem AS.mark {w0 w : World} {A : Nat} {V : List Value} {r : Rcp} {b o : Nat} {l : Led0} {sv : List Led0} {B B0 : List Nat} (h : AS w0 w A V r b o l sv B B0) {v : Value} (hc : w.cell? ⟨b, o + 321, none⟩ = some v) (w' : World) (v' : Value) (p : Int × Int) (hp : 0 ≤ p.1 ∧ p.1 < 256 ∧ 0 ≤ p.2 ∧ p.2 < m64)
    (hg : w.grownBy w' v.ownBlock) (hown : w'.ownsRow 0 151 2 v' (l.mks.length + 1) (l.mks.flatMap markV ++ markV p)) (hat : ∀ j, v'.ownBlock = some j → v.ownBlock = some j ∨ w.heap.size ≤ j) : ∃ B', AS w0 (w'.setCell ⟨b, o + 321, none⟩ v') A V r b o { l with mks := l.mks ++ [p] } sv B' B0 := by
  obtain ⟨_, mB, hgr⟩ := h.la.grow hc
  obtain ⟨B', hla, sub⟩ := hgr w' v' p hp hg hown hat
  have hal := h.al
  have hbA := h.bA
  have heA := h.eA
  have hsb : ∀ j, v.ownBlock = some j → j < A ∧ j ∈ B0 ∨ A + 3 ≤ j := fun j hj => h.sb j (mB j hj)
  have hnb : v.ownBlock ≠ some b := fun e => h.la.bl.2 (mB b e)
  have ex : Ex (fun j => v.ownBlock = some j) w w' := Ex.ofGrown hg fun j e => e.symm
  have nA : ∀ k, A ≤ k → k < A + 3 → v.ownBlock ≠ some k := fun k h1 h2 e => by rcases hsb k e with z | z <;> omega
  refine ⟨B', (h.cg.grown hg (fun j hj => ?_) (by omega) hnb).set (by omega) v', range_set_ne (range_ex h.tx (by omega) ex (nA A (by omega) (by omega))) (by omega) _ _, there_set (there_ex h.rt (by omega) ex (nA (A + 1) (by omega) (by omega))) _ _, range_set_ne (range_ex h.rr (by omega) ex (nA (A + 2) (by omega) (by omega))) (by omega) _ _, there_set (there_ex h.tr (by omega) ex (nA (A + 2) (by omega) (by omega))) _ _, hla, fun j hj => ?_, ?_, hbA, heA⟩
  · rcases hsb j hj with z | z
    · exact .inl z.2
    · right; omega
  · rcases sub j hj with z | z
    · exact h.sb j z
    · right; omega
  · simpa using Nat.le_trans hal ex.size
theorem sets_cell_ne (w : World) (g j : Nat) (vs : List Value) (q i : Nat) (h : q ≠ g) : (w.setCells g j vs).cell? ⟨q, i, none⟩ = w.cell? ⟨q, i, none⟩ :=
  World.cell?_setCells_out g vs j w ⟨q, i, none⟩ (fun e _ => absurd e h)
theorem pay_at {t : List Int} : ∀ (j : Nat) (v : Value), (((t.drop 10).take 32).map (Value.int .u8))[j]? = some v → (kvs txk t)[10 + j]? = some v := fun j v hv => by
  have hj : j < 32 := by have := (List.getElem?_eq_some_iff.1 hv).1; simp at this; omega
  rw [List.getElem?_map, List.getElem?_take, if_pos hj, List.getElem?_drop] at hv
  rw [kvs_at, show txk (10 + j) = .u8 by unfold txk; rw [if_neg (by omega)]]
  exact hv
theorem txm_at {t : List Int} (h : t.length = 83) : ∀ (j : Nat) (v : Value), (msv (txMsg t))[j]? = some v → (kvs txk t)[42 + j]? = some v := fun j v hv => by
  rw [txv_split h, List.getElem?_append_right (by rw [kvs_len]; simp [h]), kvs_len]
  simp [h]
  exact hv
theorem refB_3 {l : Led0} {t : List Int} (hk : fld t 0 = 3) (h : refB l t = 0) : fld t 46 < 64 ∧ fld t 48 < 4 := by
  unfold refB at h
  rw [if_neg (by omega), if_neg (by omega), if_neg (by omega), if_pos hk] at h
  by_cases h1 : fld t 42 ≠ 2
  · rw [if_pos h1] at h; omega
  · rw [if_neg h1] at h
    by_cases h2 : fld t 44 ≠ l.ch
    · rw [if_pos h2] at h; omega
    · rw [if_neg h2] at h
      by_cases h3 : forP (fld t 43) l.ch = false
      · rw [if_pos h3] at h; omega
      · rw [if_neg h3] at h
        by_cases h4 : 64 ≤ fld t 45 ∨ 64 ≤ fld t 46
        · rw [if_pos h4] at h; omega
        · rw [if_neg h4] at h
          by_cases h5 : 4 ≤ fld t 48
          · rw [if_pos h5] at h; omega
          · omega
theorem range_of {w : World} {b k : Nat} {V U : List Value} (h : w.rangeAt b 0 V) (hU : ∀ j v, U[j]? = some v → V[k + j]? = some v) : w.rangeAt b k U := fun j v hv => by
  have := h (k + j) v (hU j v hv)
  rwa [Nat.zero_add] at this
end Go.Proofs.Qxb6500784a
