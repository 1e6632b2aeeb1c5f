import Derived.Test.Qxb6500774aKo
namespace Go.Proofs.Qxb6500774a
open Go.RowKit
set_option linter.unusedVariables false
set_option linter.unusedSimpArgs false

/-! ### A statement's block -/
structure SK (w : World) (q : Nat) (f : SP) : Prop where
  c0 : w.cell? ⟨q, 0, none⟩ = some (.int .i64 f.k)
  c1 : w.cell? ⟨q, 1, none⟩ = some (.string f.x)
  c2 : w.cell? ⟨q, 2, none⟩ = some (.slice f.ex.q f.ex.n f.ex.c)
  c3 : w.cell? ⟨q, 3, none⟩ = some (.slice f.ar.q f.ar.n f.ar.c)
  c4 : w.cell? ⟨q, 4, none⟩ = some (.slice f.el.q f.el.n f.el.c)
  c5 : w.cell? ⟨q, 5, none⟩ = some (.slice f.bo.q f.bo.n f.bo.c)
  c6 : w.cell? ⟨q, 6, none⟩ = some (.slice f.ag.q f.ag.n f.ag.c)
  c7 : w.cell? ⟨q, 7, none⟩ = some (.slice f.co.q f.co.n f.co.c)
  c8 : w.cell? ⟨q, 8, none⟩ = some (.int .i64 f.li)
  c9 : w.cell? ⟨q, 9, none⟩ = some (.int .i64 f.cl)
  fz : ∀ j, w.frozen? ⟨q, j, none⟩ = false
section
variable {w w' : World} {q : Nat} {f : SP}
theorem SK.lt (h : SK w q f) : q < w.heap.size := World.block_lt_of_cell? _ _ h.c0
theorem SK.keep (h : SK w q f) {T : Nat → Prop} (ex : Ex T w w') (hr : ¬ T q) : SK w' q f :=
  ⟨ex.cell hr h.c0, ex.cell hr h.c1, ex.cell hr h.c2, ex.cell hr h.c3, ex.cell hr h.c4, ex.cell hr h.c5, ex.cell hr h.c6, ex.cell hr h.c7, ex.cell hr h.c8, ex.cell hr h.c9, fun j => (ex.frozen hr h.lt).trans (h.fz j)⟩
theorem SK.put0 (h : SK w q f) (k : Int) : SK (w.setCell ⟨q, 0, none⟩ (.int .i64 k)) q { f with k := k } := by
  refine ⟨?_, ?_, ?_, ?_, ?_, ?_, ?_, ?_, ?_, ?_, fun j => by rw [set_frozen]; exact h.fz j⟩
  all_goals simp [go_sem, h.c0, h.c1, h.c2, h.c3, h.c4, h.c5, h.c6, h.c7, h.c8, h.c9]
theorem SK.put1 (h : SK w q f) (x : ByteArray) : SK (w.setCell ⟨q, 1, none⟩ (.string x)) q { f with x := x } := by
  refine ⟨?_, ?_, ?_, ?_, ?_, ?_, ?_, ?_, ?_, ?_, fun j => by rw [set_frozen]; exact h.fz j⟩
  all_goals simp [go_sem, h.c0, h.c1, h.c2, h.c3, h.c4, h.c5, h.c6, h.c7, h.c8, h.c9]
theorem SK.put2 (h : SK w q f) (v : SLc) : SK (w.setCell ⟨q, 2, none⟩ (.slice v.q v.n v.c)) q { f with ex := v } := by
  refine ⟨?_, ?_, ?_, ?_, ?_, ?_, ?_, ?_, ?_, ?_, fun j => by rw [set_frozen]; exact h.fz j⟩
  all_goals simp [go_sem, h.c0, h.c1, h.c2, h.c3, h.c4, h.c5, h.c6, h.c7, h.c8, h.c9]
theorem SK.put3 (h : SK w q f) (v : SLc) : SK (w.setCell ⟨q, 3, none⟩ (.slice v.q v.n v.c)) q { f with ar := v } := by
  refine ⟨?_, ?_, ?_, ?_, ?_, ?_, ?_, ?_, ?_, ?_, fun j => by rw [set_frozen]; exact h.fz j⟩
  all_goals simp [go_sem, h.c0, h.c1, h.c2, h.c3, h.c4, h.c5, h.c6, h.c7, h.c8, h.c9]
theorem SK.put4 (h : SK w q f) (v : SLc) : SK (w.setCell ⟨q, 4, none⟩ (.slice v.q v.n v.c)) q { f with el := v } := by
  refine ⟨?_, ?_, ?_, ?_, ?_, ?_, ?_, ?_, ?_, ?_, fun j => by rw [set_frozen]; exact h.fz j⟩
  all_goals simp [go_sem, h.c0, h.c1, h.c2, h.c3, h.c4, h.c5, h.c6, h.c7, h.c8, h.c9]
theorem SK.put5 (h : SK w q f) (v : SLc) : SK (w.setCell ⟨q, 5, none⟩ (.slice v.q v.n v.c)) q { f with bo := v } := by
  refine ⟨?_, ?_, ?_, ?_, ?_, ?_, ?_, ?_, ?_, ?_, fun j => by rw [set_frozen]; exact h.fz j⟩
  all_goals simp [go_sem, h.c0, h.c1, h.c2, h.c3, h.c4, h.c5, h.c6, h.c7, h.c8, h.c9]
theorem SK.put6 (h : SK w q f) (v : SLc) : SK (w.setCell ⟨q, 6, none⟩ (.slice v.q v.n v.c)) q { f with ag := v } := by
  refine ⟨?_, ?_, ?_, ?_, ?_, ?_, ?_, ?_, ?_, ?_, fun j => by rw [set_frozen]; exact h.fz j⟩
  all_goals simp [go_sem, h.c0, h.c1, h.c2, h.c3, h.c4, h.c5, h.c6, h.c7, h.c8, h.c9]
theorem SK.put7 (h : SK w q f) (v : SLc) : SK (w.setCell ⟨q, 7, none⟩ (.slice v.q v.n v.c)) q { f with co := v } := by
  refine ⟨?_, ?_, ?_, ?_, ?_, ?_, ?_, ?_, ?_, ?_, fun j => by rw [set_frozen]; exact h.fz j⟩
  all_goals simp [go_sem, h.c0, h.c1, h.c2, h.c3, h.c4, h.c5, h.c6, h.c7, h.c8, h.c9]
end
/-- a statement in the making -/
structure SX (B p : Nat) (a : Option Addr) (cp : Nat) (s : List Int) (w0 w : World) (q : Nat) (st : PSt) (f : SP) : Prop where
  ins : InS B p a cp s w st
  ex : Ex (fun k => k = p ∨ k = q) w0 w
  te : SK w q f
  hb : B ≤ q ∧ q < w0.heap.size ∧ p < B ∧ B ≤ w0.heap.size
def StPost (B p q : Nat) (a : Option Addr) (cp : Nat) (s : List Int) (w : World) (R : S × PSt) (e : Ending) (w' : World) : Prop := e = .returned (.tuple #[]) ∧ Ex (fun k => k = p ∨ k = q) w w' ∧ InS B p a cp s w' R.2 ∧ ∃ f, SK w' q f ∧ (isAt R.2 → SS w' (fun k => k < w.heap.size) R.1 false [spL f])
section
variable {B p q : Nat} {a : Option Addr} {cp : Nat} {s : List Int} {w0 w w' : World} {st st' : PSt} {f f' : SP}
theorem SX.low (h : SX B p a cp s w0 w q st f) (ex : Ex (fun _ => False) w w') : SX B p a cp s w0 w' q st f :=
  ⟨h.ins.ex ex (fun _ z => z.elim), h.ex.trans (ex.mono (fun _ z => z.elim)), h.te.keep ex (fun z => z), h.hb⟩
theorem SX.call (h : SX B p a cp s w0 w q st f) (ex : Ex (fun k => k = p) w w') (hi : InS B p a cp s w' st') : SX B p a cp s w0 w' q st' f :=
  have b := h.hb
  ⟨hi, h.ex.trans (ex.mono (fun _ z => .inl z)), h.te.keep ex (by omega), h.hb⟩
theorem SX.set (h : SX B p a cp s w0 w q st f) {j : Nat} {v : Value} (ht : SK (w.setCell ⟨q, j, none⟩ v) q f') : SX B p a cp s w0 (w.setCell ⟨q, j, none⟩ v) q st f' :=
  have b := h.hb
  ⟨h.ins.ex (S := fun k => k = q) ((Ex.refl (fun k => k = q) w).set (p := q) rfl _) (fun k z => by omega), h.ex.set (p := q) (.inr rfl) _, ht, h.hb⟩
/-- another block, newer than the call's start, turns -/
theorem SX.oth (h : SX B p a cp s w0 w q st f) {T : Nat → Prop} (ex : Ex T w w') (hT : ∀ k, T k → w0.heap.size ≤ k) : SX B p a cp s w0 w' q st f :=
  have b := h.hb
  ⟨h.ins.ex ex (fun k z => by have := hT k z; omega), h.ex.trans2 ex (fun j z => .inr (hT j z)), h.te.keep ex (fun z => by have := hT q z; omega), h.hb⟩
theorem SX.fin (h : SX B p a cp s w0 w q st f) {A : S} (ht : isAt st → SS w (fun k => k < w0.heap.size) A false [spL f]) : StPost B p q a cp s w0 (A, st) (.returned (.tuple #[])) w := ⟨rfl, h.ex, h.ins, f, h.te, ht⟩
/-- trees live on -/
theorem ET.pq {e : E} {x : XP} (h : ET w (fun k => k < w0.heap.size) e x) {T : Nat → Prop} (ex : Ex T w w') (hT : ∀ k, T k → k < w0.heap.size ∨ w.heap.size ≤ k) : ET w' (fun k => k < w0.heap.size) e x := h.keep ex hT (fun _ z => .inl z)
theorem ET.fresh {wd wc : World} {e : E} {x : XP} (h : ET wc (fun k => k < wd.heap.size) e x) (h0 : w0.heap.size ≤ wd.heap.size) : ET wc (fun k => k < w0.heap.size) e x :=
  h.keep (Ex.refl (fun _ => False) _) (fun _ z => z.elim) (fun _ z => .inl (Nat.lt_of_lt_of_le z h0))
end
/-! ### A row that grows, with what its elements hold -/
def KP (Pr : World → (Nat → Prop) → List (List Value) → Prop) : Prop := ∀ (w w' : World) (D D' T : Nat → Prop) (F : List (List Value)), Ex T w w' → (∀ g, T g → D g ∨ w.heap.size ≤ g) → (∀ g, D' g → D g ∨ w.heap.size ≤ g) → Pr w D F → Pr w' D' F
def DG (w0 : World) (v : SLc) (k : Nat) : Prop := k < w0.heap.size ∨ (slV v).ownBlock = some k
def GR (Pr : World → (Nat → Prop) → List (List Value) → Prop) (T sz : Nat) (w0 w : World) (v : SLc) : Prop := ∃ F : List (List Value), w.ownsRow w0.heap.size T sz (slV v) v.n F.flatten ∧ F.length = v.n ∧ Pr w (DG w0 v) F
theorem kp_pa {st : PSt} {L : List (ByteArray × E)} : KP (fun w D F => isAt st → PA w D L F) := fun _ _ _ _ _ _ ex hS hD h z => (h z).keep ex hS hD
theorem kp_ss {st : PSt} {A : S} {b : Bool} : KP (fun w D F => isAt st → SS w D A b F) := fun _ _ _ _ _ _ ex hS hD h z => (h z).keep ex hS hD
section
variable {Pr Pr' : World → (Nat → Prop) → List (List Value) → Prop} {T sz : Nat} {w0 w w' : World} {v : SLc}
theorem GR.imp (h : GR Pr T sz w0 w v) (hi : ∀ F, Pr w (DG w0 v) F → Pr' w (DG w0 v) F) : GR Pr' T sz w0 w v := by
  obtain ⟨F, h1, h2, h3⟩ := h
  exact ⟨F, h1, h2, hi F h3⟩
theorem GR.nil (hp : Pr w (DG w0 nl) []) : GR Pr T sz w0 w nl := ⟨[], World.ownsRow_nil w _ T sz, rfl, hp⟩
theorem GR.keep (hK : KP Pr) (h : GR Pr T sz w0 w v) {U : Nat → Prop} (ex : Ex U w w') (hU : ∀ k, U k → k < w0.heap.size ∨ w.heap.size ≤ k) : GR Pr T sz w0 w' v := by
  obtain ⟨F, h1, h2, h3⟩ := h
  refine ⟨F, own_kept h1 ex (fun k hk z => ?_), h2, hK _ _ _ _ _ _ ex (fun g z => ?_) (fun g z => .inl z) h3⟩
  · have := h1.lt k hk
    have := hU k z
    omega
  · rcases hU g z with q | q
    · exact .inl (.inl q)
    · exact .inr q
theorem GR.push (hK : KP Pr') {F : List (List Value)} (h2 : F.length = v.n) {news : List Value} {g cap : Nat} (hr : w'.ownsRow w0.heap.size T sz (.slice (some ⟨g, 0, none⟩) (v.n + 1) cap) (v.n + 1) (F.flatten ++ news)) (hg : w.grownBy w' (slV v).ownBlock) (hat : (slV v).ownBlock = some g ∨ g = w.heap.size) (hP : Pr' w (DG w0 v) (F ++ [news])) : GR Pr' T sz w0 w' ⟨some ⟨g, 0, none⟩, v.n + 1, cap⟩ := by
  refine ⟨F ++ [news], ?_, by rw [List.length_append, h2]; rfl, ?_⟩
  · have e : (F ++ [news]).flatten = F.flatten ++ news := by rw [List.flatten_append]; simp
    rw [e]
    exact hr
  · refine hK _ _ _ _ (fun k => (slV v).ownBlock = some k) _ (Ex.ofGrown hg (fun _ z => z.symm)) (fun k z => .inl (.inr z)) (fun k z => ?_) hP
    rcases z with z | z
    · exact .inl (.inl z)
    · have z : some g = some k := z
      injection z with z
      subst z
      rcases hat with q | q
      · exact .inl (.inr q)
      · exact .inr (by omega)
theorem GR.fin (hK : KP Pr) (h : GR Pr T sz w0 w v) : ∃ F, RW w (fun k => k < w0.heap.size) F v ∧ Pr w (fun k => k < w0.heap.size) F := by
  obtain ⟨F, h1, h2, h3⟩ := h
  refine ⟨F, ⟨h2.symm, ?_, fun hn => ?_⟩, hK _ _ _ _ _ _ (Ex.refl (fun _ => False) w) (fun _ z => z.elim) (fun g z => .inl (.inl z)) h3⟩
  · rcases h1.2 with ⟨e, e2⟩ | ⟨g, cap, cur, e, _, _, hc1, hc2, _⟩
    · injection e with _ e3 e4
      rw [e3, e4]
      exact ⟨Nat.le_refl _, Nat.zero_le _⟩
    · injection e with _ e3 e4
      rw [e4]
      exact ⟨hc1, hc2⟩
  · rcases h1.2 with ⟨e, e2⟩ | ⟨g, cap, cur, e, hb, hg, hc1, hc2, hc3, hc4⟩
    · omega
    · injection e with e1 e3 e4
      have hlt : g < w.heap.size := (Array.getElem?_eq_some_iff.1 hg).1
      refine ⟨g, e1, ⟨hlt, by omega⟩, fun j u hj => ?_⟩
      have hj2 : (cur.toList.take (v.n * sz))[j]? = some u := by rw [hc4]; exact hj
      rw [List.getElem?_take] at hj2
      split at hj2
      · have hc : cur[j]? = some u := by simpa using hj2
        rw [cell_of_row w g j cur T (0, 0) hg]
        exact hc
      · cases hj2
end
theorem Try.inf115 : (Try.prog.info? 115).map (fun i => (i.zero, i.size, i.bytes)) = some (some (.agg #[.string ⟨#[]⟩, .int .i64 0, .string ⟨#[]⟩, .int .i64 0, .string ⟨#[]⟩, .slice none 0 0, .int .i64 0, .int .i64 0]), 8, 104) := by kernel_rfl
theorem Try.inf121 : (Try.prog.info? 121).map (fun i => (i.zero, i.size, i.bytes)) = some (some (.agg #[.string ⟨#[]⟩, .int .i64 0, .string ⟨#[]⟩, .int .i64 0, .string ⟨#[]⟩, .slice none 0 0, .int .i64 0, .int .i64 0]), 8, 104) := by kernel_rfl
theorem Try.inf117 : (Try.prog.info? 117).map (fun i => (i.zero, i.size, i.bytes)) = some (some (.agg #[.int .i64 0, .string ⟨#[]⟩, .int .i64 0, .string ⟨#[]⟩, .slice none 0 0, .int .i64 0, .int .i64 0, .slice none 0 0]), 8, 112) := by kernel_rfl
theorem Try.inf113 : (Try.prog.info? 113).map (fun i => (i.zero, i.size, i.bytes)) = some (some (.agg #[.int .i64 0, .string ⟨#[]⟩, .slice none 0 0, .slice none 0 0, .slice none 0 0, .slice none 0 0, .slice none 0 0, .slice none 0 0, .int .i64 0, .int .i64 0]), 10, 184) := by kernel_rfl
/-- append of one element that lies in a new block, to a row that grows, in a drawn region -/
theorem step_push {Pr : World → (Nat → Prop) → List (List Value) → Prop} {ops : Array Oper} {o : Oper} {a : Act} {w w0 : World} {K : Act → World → Prop} {Q : Exit → Act → World → Prop} {E : Prop} (hgd : o.guard = none) (s x : Operand) (t e : TypeId) (z : Value) (size bytes : Nat)
    (ho : o.op = .call { callee := .builtin .append, args := #[s, x], argTypes := #[t, t] }) (ht : Try.prog.underlying t = some (.slice e)) (hinfo : (Try.prog.info? e).map (fun i => (i.zero, i.size, i.bytes)) = some (some z, size, bytes)) (hzs : z.cells.size = size) (hsz : 0 < size) (hb : bytes ≤ 1000)
    (v : SLc) (hs : a.eval s = slV v) (h : GR Pr e size w0 w v) (g0 c : Nat) (news : List Value) (hx : a.eval x = .slice (some ⟨g0, 0, none⟩) 1 c) (hl : news.length = size) (hnews : ∀ j u, news[j]? = some u → w.cell? ((⟨g0, 0, none⟩ : Addr).add j) = some u) (h1 : ∀ u ∈ news, u.oneCell' = true) (hn : v.n ≤ 4294967296) (hw0 : w0.heap.size ≤ w.heap.size)
    (hK : ∀ g cap w', (∀ Pr', KP Pr' → (∀ F, Pr w (DG w0 v) F → Pr' w (DG w0 v) (F ++ [news])) → GR Pr' e size w0 w' ⟨some ⟨g, 0, none⟩, v.n + 1, cap⟩) → w.grownBy w' (slV v).ownBlock → (∀ k, (slV v).ownBlock = some k → w0.heap.size ≤ k ∧ k < w.heap.size) → K (a.put o.dst (.slice (some ⟨g, 0, none⟩) (v.n + 1) cap)) w') :
    if Region.wanted o (yielded ops a.tmps) = true then Oper.wp Try.prog o a w K Q else E := by
  obtain ⟨F, h2, h3, h4⟩ := h
  obtain ⟨i, hi, hz, hsi, hby⟩ : ∃ i, Try.prog.info? e = some i ∧ i.zero = some z ∧ i.size = size ∧ i.bytes = bytes := by
    cases hq : Try.prog.info? e with
    | none => rw [hq] at hinfo; cases hinfo
    | some i =>
      rw [hq] at hinfo
      simp at hinfo
      exact ⟨i, rfl, hinfo.1, hinfo.2.1, hinfo.2.2⟩
  refine step_append_lies w hgd s x t ho w0.heap.size e i z size bytes ht hi hz hsi hby hzs hsz (slV v) v.n F.flatten hs h2 ⟨g0, 0, none⟩ 1 c news hx (by omega) hnews h1 (by omega) (by unfold maxLen; omega) ?_ hw0 _ rfl ?_
  · have : (v.n + 1) * bytes ≤ 4294967297 * 1000 := Nat.mul_le_mul (by omega) hb
    omega
  · intro g cap w' hr hg hat hlt
    exact hK g cap w' (fun Pr' hKP hp => GR.push hKP h3 hr hg hat (hp F h4)) hg (fun k hk => h2.lt k hk)
/-- the same in a straight region -/
theorem wpl_push {Pr : World → (Nat → Prop) → List (List Value) → Prop} {ops : Array Oper} {rest : List Oper} {o : Oper} {a : Act} {w w0 : World} {Q : Exit → Act → World → Prop} (hgd : o.guard = none) (s x : Operand) (t e : TypeId) (z : Value) (size bytes : Nat)
    (ho : o.op = .call { callee := .builtin .append, args := #[s, x], argTypes := #[t, t] }) (ht : Try.prog.underlying t = some (.slice e)) (hinfo : (Try.prog.info? e).map (fun i => (i.zero, i.size, i.bytes)) = some (some z, size, bytes)) (hzs : z.cells.size = size) (hsz : 0 < size) (hb : bytes ≤ 1000)
    (v : SLc) (hs : a.eval s = slV v) (h : GR Pr e size w0 w v) (g0 c : Nat) (news : List Value) (hx : a.eval x = .slice (some ⟨g0, 0, none⟩) 1 c) (hl : news.length = size) (hnews : ∀ j u, news[j]? = some u → w.cell? ((⟨g0, 0, none⟩ : Addr).add j) = some u) (h1 : ∀ u ∈ news, u.oneCell' = true) (hn : v.n ≤ 4294967296) (hw0 : w0.heap.size ≤ w.heap.size)
    (hK : ∀ g cap w', (∀ Pr', KP Pr' → (∀ F, Pr w (DG w0 v) F → Pr' w (DG w0 v) (F ++ [news])) → GR Pr' e size w0 w' ⟨some ⟨g, 0, none⟩, v.n + 1, cap⟩) → w.grownBy w' (slV v).ownBlock → (∀ k, (slV v).ownBlock = some k → w0.heap.size ≤ k ∧ k < w.heap.size) → wpList Try.prog ops Q rest (a.put o.dst (.slice (some ⟨g, 0, none⟩) (v.n + 1) cap)) w') :
    wpList Try.prog ops Q (o :: rest) a w := by
  obtain ⟨F, h2, h3, h4⟩ := h
  obtain ⟨i, hi, hz, hsi, hby⟩ : ∃ i, Try.prog.info? e = some i ∧ i.zero = some z ∧ i.size = size ∧ i.bytes = bytes := by
    cases hq : Try.prog.info? e with
    | none => rw [hq] at hinfo; cases hinfo
    | some i =>
      rw [hq] at hinfo
      simp at hinfo
      exact ⟨i, rfl, hinfo.1, hinfo.2.1, hinfo.2.2⟩
  refine wpList_append_lies w hgd s x t ho w0.heap.size e i z size bytes ht hi hz hsi hby hzs hsz (slV v) v.n F.flatten hs h2 ⟨g0, 0, none⟩ 1 c news hx (by omega) hnews h1 (by omega) (by unfold maxLen; omega) ?_ hw0 _ rfl ?_
  · have : (v.n + 1) * bytes ≤ 4294967297 * 1000 := Nat.mul_le_mul (by omega) hb
    omega
  · intro g cap w' hr hg hat hlt
    exact hK g cap w' (fun Pr' hKP hp => GR.push hKP h3 hr hg hat (hp F h4)) hg (fun k hk => h2.lt k hk)
end Go.Proofs.Qxb6500774a
