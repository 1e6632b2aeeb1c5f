import Derived.Test.Qxb6500784aTy
import Derived.Test.Qxb6500784aSort
import Derived.Laws.AppendOwnNone
import Derived.Great.BuildSlice
namespace Go.Proofs.Qxb6500784a
open Go.RowKit

/-! ### Many cells at once -/
theorem ldC (w : World) (b o : Nat) (cs : List Value) (n : Nat) (hn : cs.length = n) (h : w.rangeAt b o cs) : (loadCellsFrom ⟨b, o, none⟩ 0 n #[]).run Try.prog w = .ok cs.toArray w := by
  subst hn
  have := run_loadCells_list (P := Try.prog) w ⟨b, o, none⟩ cs (fun j v hv => by rw [Addr.add_mid]; exact h j v hv)
  simpa [loadCells] using this
theorem stC (w : World) (b o : Nat) (cs : List Value) (ht : w.there b o cs.length) (h1 : ∀ u ∈ cs, u.oneCell' = true) : (storeCells ⟨b, o, none⟩ cs 0).run Try.prog w = .ok () (w.setCells b o cs) := by
  have := run_storeCells_cells (P := Try.prog) b o cs 0 w (fun j hj => by simpa using (ht j hj).1) (fun j hj => by simpa using (ht j hj).2) h1
  simpa using this
theorem stNew (w : World) (t : Nat) (z : Array Value) (cs : List Value) (n : Nat) (hi : (Try.prog.info? t).map (·.size) = some n) (hz : z.size = n) (hn : cs.length = n) (h1 : ∀ u ∈ cs, u.oneCell' = true) :
    (storeCells ⟨w.heap.size, 0, none⟩ cs 0).run Try.prog (w.alloc (.cells z t)) = .ok () (w.alloc (.cells cs.toArray t)) := by
  have := run_storeCells_new (P := Try.prog) w t z cs.toArray (by simpa [hn] using hi) (by simp [hz, hn]) (all_oneCell_toArray h1)
  simpa using this
theorem newR (w : World) (cs : List Value) (t : Nat) : (w.alloc (.cells cs.toArray t)).rangeAt w.heap.size 0 cs := fun j v hv => by
  have := new_cells w cs t j v hv
  rwa [Addr.add_mid] at this
theorem newT (w : World) (cs : List Value) (t : Nat) : (w.alloc (.cells cs.toArray t)).there w.heap.size 0 cs.length := fun j hj => by
  refine ⟨by rw [newR w cs t j _ (List.getElem?_eq_getElem hj)]; rfl, by simp [go_sem]⟩
theorem newTz (w : World) (z : Array Value) (t : Nat) : (w.alloc (.cells z t)).there w.heap.size 0 z.size := by
  have := newT w z.toList t
  simpa using this
theorem range_below {w w' : World} {b o : Nat} {cs : List Value} (h : w.rangeAt b o cs) (hb : b < w.heap.size) (k : Below w.heap.size w w') : w'.rangeAt b o cs :=
  rangeAt_keep h fun _ _ => World.cell?_of_block (k.block b hb)
theorem there_below {w w' : World} {b o n : Nat} (h : w.there b o n) (hb : b < w.heap.size) (k : Below w.heap.size w w') : w'.there b o n := fun j hj =>
  ⟨by rw [World.cell?_of_block (k.block b hb)]; exact (h j hj).1, by rw [World.frozen?_of_block (k.block b hb)]; exact (h j hj).2⟩
theorem range_ex {S : Nat → Prop} {w w' : World} {b o : Nat} {cs : List Value} (h : w.rangeAt b o cs) (hb : b < w.heap.size) (k : Ex S w w') (hS : ¬ S b) : w'.rangeAt b o cs :=
  rangeAt_keep h fun _ _ => World.cell?_of_block (k.block b hb hS)
theorem there_ex {S : Nat → Prop} {w w' : World} {b o n : Nat} (h : w.there b o n) (hb : b < w.heap.size) (k : Ex S w w') (hS : ¬ S b) : w'.there b o n := fun j hj =>
  ⟨by rw [World.cell?_of_block (k.block b hb hS)]; exact (h j hj).1, by rw [World.frozen?_of_block (k.block b hb hS)]; exact (h j hj).2⟩
/-- One cell of a range is set. -/
theorem range_set {w : World} {b o : Nat} {cs : List Value} (h : w.rangeAt b o cs) (j : Nat) (u : Value) : (w.setCell ⟨b, o + j, none⟩ u).rangeAt b o (cs.set j u) := fun i v hv => by
  have hi : i < cs.length := by have := (List.getElem?_eq_some_iff.1 hv).1; simpa using this
  rw [List.getElem?_set] at hv
  by_cases e : j = i
  · subst e
    rw [if_pos rfl, if_pos hi] at hv
    rw [World.cell?_setCell_same _ _ _ (h j _ (List.getElem?_eq_getElem hi))]
    exact hv
  · rw [if_neg e] at hv
    rw [World.cell?_setCell_other _ _ _ _ (by simp)]
    exact h i v hv
theorem there_set {w : World} {b o n : Nat} (h : w.there b o n) (a : Addr) (u : Value) : (w.setCell a u).there b o n := fun j hj => by
  refine ⟨?_, by rw [set_frozen]; exact (h j hj).2⟩
  obtain ⟨v, hv⟩ := Option.isSome_iff_exists.1 (h j hj).1
  by_cases e : a = ⟨b, o + j, none⟩
  · subst e; rw [World.cell?_setCell_same _ _ _ hv]; rfl
  · rw [World.cell?_setCell_other _ _ _ _ e, hv]; rfl
theorem range_set_ne {w : World} {b o : Nat} {cs : List Value} (h : w.rangeAt b o cs) {g : Nat} (hg : b ≠ g) (j : Nat) (u : Value) : (w.setCell ⟨g, j, none⟩ u).rangeAt b o cs := fun i v hv => by
  rw [set_cell_ne _ _ _ _ _ _ hg]; exact h i v hv
/-- Cells of a row that is owned. -/
theorem own_range {w : World} {B e k n n' : Nat} {g c : Nat} {xs : List Value} (h : w.ownsRow B e k (.slice (some ⟨g, 0, none⟩) n' c) n xs) : w.rangeAt g 0 xs := fun j v hv => by
  have := h.cells rfl j v hv
  rwa [Addr.add_mid] at this
theorem flat_atM {α : Type} (f : α → List Value) (m : Nat) : ∀ (L : List α) (_ : ∀ x, x ∈ L → (f x).length = m) (i : Nat) (x : α), L[i]? = some x → ∀ j, j < m → (L.flatMap f)[i * m + j]? = (f x)[j]?
  | [], _, i, x, h, _, _ => by simp at h
  | y :: C, hf, 0, x, h, j, hj => by
    simp at h
    subst h
    rw [List.flatMap_cons, Nat.zero_mul, Nat.zero_add, List.getElem?_append_left (by rw [hf _ (by simp)]; omega)]
  | y :: C, hf, i + 1, x, h, j, hj => by
    rw [List.flatMap_cons, List.getElem?_append_right (by rw [hf y (by simp), Nat.succ_mul]; omega)]
    have : (i + 1) * m + j - (f y).length = i * m + j := by rw [hf y (by simp), Nat.succ_mul]; omega
    rw [this]
    exact flat_atM f m C (fun x hx => hf x (List.mem_cons_of_mem _ hx)) i x (by simpa using h) j hj
theorem range_flat {α : Type} {w : World} {g : Nat} {f : α → List Value} {k : Nat} {L : List α} (hf : ∀ x, x ∈ L → (f x).length = k) (h : w.rangeAt g 0 (L.flatMap f)) {i : Nat} {x : α} (hx : L[i]? = some x) : w.rangeAt g (i * k) (f x) := fun j v hv => by
  have hj : j < k := by have := (List.getElem?_eq_some_iff.1 hv).1; rwa [hf x (List.mem_of_getElem? hx)] at this
  have := h (i * k + j) v (by rw [flat_atM f k L hf i x hx j hj]; exact hv)
  rwa [Nat.zero_add] at this

/-! ### A checkpoint more -/
theorem blks_cons (s : Value) (r : List Value) : blks (s :: r) = s.ownBlock.toList ++ blks r := by
  unfold blks
  cases h : s.ownBlock <;> simp [h]
theorem CV.push {w w' : World} {T k : Nat} {f q : Fl} {sw : List (Fl × List Value)} {vs us : List Value} {s s' : Value} (h : CV w T k f sw vs s) (hg : w.grownBy w' s.ownBlock)
    (hown : w'.ownsRow 0 T k s' (sw.length + 1) (sw.flatMap (fun p => p.1.lay p.2 nilS) ++ q.lay us nilS)) (hat : ∀ j, s'.ownBlock = some j → s.ownBlock = some j ∨ w.heap.size ≤ j)
    (hq : FlV w q us) (hnd : (blks us).Nodup) (hdis : ∀ j, j ∈ blks us → j ∉ blks (vs ++ s :: sw.flatMap (·.2))) : CV w' T k f (sw ++ [(q, us)]) vs s' := by
  have nd := h.nd
  rw [blks_append, blks_cons, List.nodup_append, List.nodup_append] at nd
  obtain ⟨n1, ⟨n2, n3, n4⟩, n5⟩ := nd
  have ex : Ex (fun j => s.ownBlock = some j) w w' := Ex.ofGrown hg fun j e => e.symm
  have hlt : ∀ j, j ∈ blks (vs ++ s :: sw.flatMap (·.2)) → j < w.heap.size := fun j hj => h.lt hj
  simp only [blks_append, blks_cons, List.mem_append, Option.mem_toList] at hdis hlt
  have hs' : ∀ j, s'.ownBlock = some j → j ∉ blks vs ∧ j ∉ blks (sw.flatMap (·.2)) ∧ j ∉ blks us := fun j hj => by
    rcases hat j hj with z | z
    · refine ⟨fun e => n5 j e j (List.mem_append_left _ (by simpa using z)) rfl, fun e => n4 j (by simpa using z) j e rfl, fun e => hdis j e (.inr (.inl z))⟩
    · exact ⟨fun e => by have := hlt j (.inl e); omega, fun e => by have := hlt j (.inr (.inr e)); omega, fun e => by have := hq.lt e; omega⟩
  refine ⟨h.fl.keep ex fun j hj e => n5 j hj j (List.mem_append_left _ (by simpa using e)) rfl, ?_, fun p hp => ?_, ?_⟩
  · rw [List.length_append, List.flatMap_append]
    simpa using hown
  · rcases List.mem_append.1 hp with hp | hp
    · refine (h.ea p hp).keep ex fun j hj e => n4 j (by simpa using e) j ?_ rfl
      obtain ⟨v, hv, ev⟩ := mem_blks.1 hj
      exact mem_blks.2 ⟨v, List.mem_flatMap.2 ⟨p, hp, hv⟩, ev⟩
    · have e : p = (q, us) := by simpa using hp
      subst e
      exact hq.keep ex fun j hj e => hdis j hj (.inr (.inl e))
  · rw [List.flatMap_append, blks_append, blks_cons, blks_append]
    have e : ([(q, us)] : List (Fl × List Value)).flatMap (·.2) = us := by simp
    rw [e, List.nodup_append, List.nodup_append, List.nodup_append]
    refine ⟨n1, ⟨?_, ⟨n3, hnd, fun a ha b hb e => hdis b hb (.inr (.inr (e ▸ ha)))⟩, ?_⟩, ?_⟩
    · cases s'.ownBlock <;> simp
    · intro a ha b hb e
      subst e
      obtain ⟨z1, z2, z3⟩ := hs' a (by simpa using ha)
      rcases List.mem_append.1 hb with hb | hb
      · exact z2 hb
      · exact z3 hb
    · intro a ha b hb e
      subst e
      rcases List.mem_append.1 hb with hb | hb
      · exact (hs' a (by simpa using hb)).1 ha
      · rcases List.mem_append.1 hb with hb | hb
        · exact n5 a ha a (List.mem_append_right _ hb) rfl
        · exact hdis a hb (.inl ha)

/-! ### append(nil, xs...) -/
theorem app_copy {P : Program} {w : World} {ops : Array Oper} {rest : List Oper} {o : Oper} {a : Act} {Q : Exit → Act → World → Prop} (hgd : o.guard = none) (s x : Operand) (t : TypeId)
    (ho : o.op = .call { callee := .builtin .append, args := #[s, x], argTypes := #[t, t] })
    (e : TypeId) (i : TypeInfo) (z : Value) (size bytes : Nat) (ht : P.underlying t = some (.slice e)) (hi : P.info? e = some i) (hz : i.zero = some z) (hsize : i.size = size) (hby : i.bytes = bytes) (hzs : z.cells.size = size) (hsz : 0 < size)
    (hs : a.eval s = nilS) (v : Value) (n : Nat) (xs : List Value) (hx : a.eval x = v) (hown : w.ownsRow 0 e size v n xs) (h1 : ∀ u ∈ xs, u.oneCell' = true) (h63 : n ≤ maxLen) (hbytes : n * bytes ≤ 140737488355328)
    (h : ∀ v' w', w'.ownsRow w.heap.size e size v' n xs → w.grownBy w' none → wpList P ops Q rest (a.put o.dst v') w') : wpList P ops Q (o :: rest) a w := by
  have hl := hown.1
  rcases hown.2 with ⟨rfl, rfl⟩ | ⟨g, cap, cur, rfl, _, hg, _⟩
  · have e0 : xs = [] := List.eq_nil_of_length_eq_zero (by simpa using hl)
    subst e0
    exact wpList_append_own_none hgd s x t ho w.heap.size e i size ht hi nilS 0 [] hs (World.ownsRow_nil _ _ _ _) hx (h _ _ (World.ownsRow_nil _ _ _ _) ⟨rfl, rfl, rfl, Nat.le_refl _, fun _ _ _ => rfl⟩)
  · refine wpList_append_own w hgd s x t ho w.heap.size e i z size bytes ht hi hz hsize hby hzs hsz nilS 0 [] hs (World.ownsRow_nil _ _ _ _) ⟨g, 0, none⟩ n cap xs hx hl (fun j u hj => hown.cells rfl j u hj) h1 (by simpa using h63) (by simpa using hbytes) (Nat.le_refl _) ?_
    intro v' w' h1 h2 _
    rw [Nat.zero_add, List.nil_append] at h1
    exact h v' w' h1 h2
/-! ### Results that lie in memory -/
theorem res_cell {fn : Func} {a t : Nat} {tmps : Array Value} {w : World} {p : Addr} {v : Value} (hr : fn.results = #[.cell a t]) (ha : tmps[a]?.getD undef = .pointer (some p)) (hl : (loadVar t p).run Try.prog w = .ok v w) : (results fn tmps).run Try.prog w = .ok v w := by
  simp only [results, hr]
  simp [ha, hl, asAddr]
theorem res_cell_tmp {fn : Func} {a t k : Nat} {tmps : Array Value} {w : World} {p : Addr} {v u : Value} (hr : fn.results = #[.cell a t, .tmp k]) (ha : tmps[a]?.getD undef = .pointer (some p)) (hk : tmps[k]?.getD undef = u) (hl : (loadVar t p).run Try.prog w = .ok v w) : (results fn tmps).run Try.prog w = .ok (.tuple #[v, u]) w := by
  simp only [results, hr]
  simp [ha, hl, hk, asAddr]
theorem res_cell_cell {fn : Func} {a t a' t' : Nat} {tmps : Array Value} {w : World} {p p' : Addr} {v v' : Value} (hr : fn.results = #[.cell a t, .cell a' t']) (ha : tmps[a]?.getD undef = .pointer (some p)) (hl : (loadVar t p).run Try.prog w = .ok v w) (ha' : tmps[a']?.getD undef = .pointer (some p')) (hl' : (loadVar t' p').run Try.prog w = .ok v' w) : (results fn tmps).run Try.prog w = .ok (.tuple #[v, v']) w := by
  simp only [results, hr]
  simp [ha, hl, ha', hl', asAddr]
/-- A list of one element of many cells, at a step of a region that draws. -/
theorem wp_buildS {P : Program} {w : World} {o : Oper} {a : Act} {K : Act → World → Prop} {Q : Exit → Act → World → Prop} (t e : TypeId) (x : Operand) (ho : o.op = .buildSlice t 1 #[(0, x)]) (cs : List Value) (hx : a.eval x = .agg cs.toArray)
    (i : TypeInfo) (z : Value) (k bytes : Nat) (hu : P.underlying t = some (.slice e)) (hi : P.info? e = some i) (hz : i.zero = some z) (hsize : i.size = k) (_hby : i.bytes = bytes) (hl : cs.length = k) (hp : 0 < k) (hs : k ≤ 16777216)
    (h : K (a.put o.dst (.slice (some ⟨w.heap.size, 0, none⟩) 1 1)) (w.alloc (.cells cs.toArray e))) : Oper.wp P o a w K Q := by
  refine wp_buildSlice t e 1 #[(0, x)] ho cs.toArray i z hu hi hz (by omega) (by omega) ?_ h
  have e1 : (#[(0, x)].map fun (i, x) => (i, a.eval x)).toList = (([Value.agg cs.toArray] : List Value).zipIdx 0).map fun y => (y.2, y.1) := by simp [hx]
  rw [e1, hsize]
  have := Great.fill_whole hp [Value.agg cs.toArray] ((Array.range (1 * k)).map (z.cells[· % z.cells.size]!)) (fun v hv => by
    have : v = .agg cs.toArray := by simpa using hv
    subst this
    simp [Value.cells, hl]) (by simp)
  rw [this]
  simp [Value.cells]
theorem step_buildS {P : Program} {w : World} {ops : Array Oper} {o : Oper} {a : Act} {K : Act → World → Prop} {Q : Exit → Act → World → Prop} {E : Prop} (hg : o.guard = none) (t e : TypeId) (x : Operand) (ho : o.op = .buildSlice t 1 #[(0, x)]) (cs : List Value) (hx : a.eval x = .agg cs.toArray)
    (i : TypeInfo) (z : Value) (k bytes : Nat) (hu : P.underlying t = some (.slice e)) (hi : P.info? e = some i) (hz : i.zero = some z) (hsize : i.size = k) (hby : i.bytes = bytes) (hl : cs.length = k) (hp : 0 < k) (hs : k ≤ 16777216)
    (h : K (a.put o.dst (.slice (some ⟨w.heap.size, 0, none⟩) 1 1)) (w.alloc (.cells cs.toArray e))) : if Region.wanted o (yielded ops a.tmps) = true then Oper.wp P o a w K Q else E := by
  rw [if_pos (by simp [Region.wanted, hg])]
  exact wp_buildS t e x ho cs hx i z k bytes hu hi hz hsize hby hl hp hs h
end Go.Proofs.Qxb6500784a
