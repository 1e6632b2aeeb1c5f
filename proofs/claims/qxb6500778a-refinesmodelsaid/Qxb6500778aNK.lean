import Derived.Test.Qxb6500778aNJ
import Derived.Deep.MidRow
namespace Go.Proofs.Qxb6500778a
open Go.RowKit

theorem wpL_run {P : Program} {ops : Array Oper} {rest : List Oper} {op : Oper} {a : Act} {w : World} {Q : Exit → Act → World → Prop} (hg : op.guard = none) (v : Value) (w' : World) (hrun : (execOp a.eval op).run P w = .ok (.value v) w')
    (h : wpList P ops Q rest (a.put op.dst v) w') : wpList P ops Q (op :: rest) a w := by
  refine wpList_plain hg fun K hK => ?_
  unfold Oper.wp
  rw [hrun, Oper.upon_value]
  exact hK _ _ h
theorem wpL_load {P : Program} {ops : Array Oper} {rest : List Oper} {op : Oper} {a : Act} {w : World} {Q : Exit → Act → World → Prop} (hg : op.guard = none) (ty : TypeId) (x : Operand) (ho : op.op = .load ty x)
    (b o : Nat) (hx : a.eval x = .pointer (some ⟨b, o, none⟩)) (cs : List Value) (d : TypeDesc) (hr : w.rangeAt b o cs) (hu : P.underlying ty = some d) (hd : d.isRow = true) (hi : (P.info? ty).map (·.size) = some cs.length)
    (h : wpList P ops Q rest (a.put op.dst (.agg cs.toArray)) w) : wpList P ops Q (op :: rest) a w := by
  refine wpL_run hg (.agg cs.toArray) w ?_ h
  unfold execOp
  simp only [ho, hx, Instr.loadAt, Instr.sureAddr, Sem.run_bind, Sem.run_pure, Result.andThen_ok, run_loadVar_mid w b o ty cs d hr hu hd hi]
theorem wpL_store {P : Program} {ops : Array Oper} {rest : List Oper} {op : Oper} {a : Act} {w : World} {Q : Exit → Act → World → Prop} (hg : op.guard = none) (ty : TypeId) (x y : Operand) (ho : op.op = .store ty x y)
    (b o : Nat) (cs : List Value) (hx : a.eval x = .pointer (some ⟨b, o, none⟩)) (hy : a.eval y = .agg cs.toArray) (ht : w.there b o cs.length) (hi : (P.info? ty).map (·.size) = some cs.length) (h1 : ∀ u ∈ cs, u.oneCell' = true)
    (h : wpList P ops Q rest (a.put op.dst undef) (w.setCells b o cs)) : wpList P ops Q (op :: rest) a w :=
  wpList_plain hg fun _ hK => wp_store_mid ty x y ho b o cs.toArray hx hy (by simpa using ht) (by simpa using hi) (all_oneCell_toArray h1) (by simpa using hK _ _ h)
/-! ### A network's sixty-four cells -/
def dvC (N : Nat → Dv) (vr va : Nat → Value) (d : Nat) : List Value := [vr d, va d, .bool (N d).up, .int .u16 (N d).lk]
def netC (N : Nat → Dv) (vr va : Nat → Value) : List Value := (List.range 16).flatMap (dvC N vr va)
theorem netC_len (N : Nat → Dv) (vr va : Nat → Value) : (netC N vr va).length = 64 := by
  have := flat_len (dvC N vr va) 4 (fun _ => rfl) (List.range 16)
  simpa [netC] using this
theorem netC_at (N : Nat → Dv) (vr va : Nat → Value) (d : Nat) (hd : d < 16) (j : Nat) (hj : j < 4) : (netC N vr va)[d * 4 + j]? = (dvC N vr va d)[j]? :=
  flat_at (dvC N vr va) 4 (fun _ => rfl) (List.range 16) d d (by simp [hd]) j hj
theorem NA.range {w : World} {b : Nat} {N : Nat → Dv} {vr va : Nat → Value} (h : NA w b N vr va) : w.rangeAt b 0 (netC N vr va) := fun j v hj => by
  have hlt : j < 64 := by have := (List.getElem?_eq_some_iff.1 hj).1; rwa [netC_len] at this
  have e : j = (j / 4) * 4 + j % 4 := by omega
  have hd : j / 4 < 16 := by omega
  rw [e, netC_at N vr va (j / 4) hd (j % 4) (by omega)] at hj
  rw [Nat.zero_add, e]
  have : j % 4 = 0 ∨ j % 4 = 1 ∨ j % 4 = 2 ∨ j % 4 = 3 := by omega
  rcases this with h0 | h0 | h0 | h0
  · rw [h0] at hj ⊢; rw [← hj]; exact h.r _ hd
  · rw [h0] at hj ⊢; rw [← hj]; exact h.a _ hd
  · rw [h0] at hj ⊢; rw [← hj]; exact h.u _ hd
  · rw [h0] at hj ⊢; rw [← hj]; exact h.l _ hd
theorem NA.there {w : World} {b : Nat} {N : Nat → Dv} {vr va : Nat → Value} (h : NA w b N vr va) : w.there b 0 64 := fun j hj => by
  obtain ⟨v, hv⟩ : ∃ v, (netC N vr va)[j]? = some v := ⟨_, List.getElem?_eq_getElem (by rw [netC_len]; exact hj)⟩
  exact ⟨by rw [h.range j v hv]; rfl, h.fz _⟩
theorem NA.one {w : World} {b : Nat} {N : Nat → Dv} {vr va : Nat → Value} (h : NA w b N vr va) : ∀ u ∈ netC N vr va, u.oneCell' = true := fun u hu => by
  obtain ⟨d, hd, hx⟩ := List.mem_flatMap.1 hu
  have hd : d < 16 := by simpa using hd
  simp only [dvC, List.mem_cons, List.not_mem_nil, or_false] at hx
  rcases hx with rfl | rfl | rfl | rfl
  · obtain ⟨sa, sc, e⟩ := own_len (h.ro d hd); rw [e]; rfl
  · obtain ⟨sa, sc, e⟩ := own_len (h.ao d hd); rw [e]; rfl
  · rfl
  · rfl
theorem NA.copy {w : World} {b b' : Nat} {N M : Nat → Dv} {vr va ur ua : Nat → Value} (h : NA w b N vr va) (k : NA w b' M ur ua) (hb : b < b') : NA (w.setCells b 0 (netC M ur ua)) b M ur ua := by
  have e : Ex (fun k => k = b) w (w.setCells b 0 (netC M ur ua)) := Ex.sets (S := fun k => k = b) (p := b) rfl _ _ w (Ex.refl _ _)
  have hr := World.rangeAt_setCells_same w b 0 (netC M ur ua) (by rw [netC_len]; exact h.there)
  have c : ∀ d, d < 16 → ∀ j u, j < 4 → (dvC M ur ua d)[j]? = some u → (w.setCells b 0 (netC M ur ua)).cell? ⟨b, d * 4 + j, none⟩ = some u := fun d hd j u hj hu => by
    have := hr (d * 4 + j) u (by rw [netC_at M ur ua d hd j hj]; exact hu)
    rwa [Nat.zero_add] at this
  have kb := fun q hq => k.foot_ge (k := q) hq
  refine ⟨fun d hd => c d hd 0 _ (by omega) rfl, fun d hd => c d hd 1 _ (by omega) rfl, fun d hd => c d hd 2 _ (by omega) rfl, fun d hd => c d hd 3 _ (by omega) rfl, fun j => ?_, fun d hd => own_low (own_kept (k.ro d hd) e (fun q hq (x : q = b) => by have := kb q (.inr ⟨d, hd, .inl hq⟩); omega)) (by omega), fun d hd => own_low (own_kept (k.ao d hd) e (fun q hq (x : q = b) => by have := kb q (.inr ⟨d, hd, .inr hq⟩); omega)) (by omega), k.rr, k.aa, k.ra⟩
  rw [World.frozen?_setCells]
  exact h.fz j
theorem Try.sz71 : (Try.prog.info? 71).map (·.size) = some 64 := by kernel_rfl
def applyP (N : Nat → Dv) (id : Int) (C : List Chg) : Nat → Dv := if (runP N id C).2.2.1 = 0 then (runP N id C).1 else N
def ApplyPost (w : World) (b : Nat) (vr va : Nat → Value) (er at_ : Int) (N' : Nat → Dv) (e : Ending) (w' : World) : Prop :=
  e = .returned (.tuple #[.int .i64 er, .int .i64 at_]) ∧ Ex (fun k => k = b) w w' ∧ ∃ vr' va', NA w' b N' vr' va' ∧ ∀ k, Foot b vr' va' k → Foot b vr va k ∨ w.heap.size ≤ k
set_option linter.unusedSimpArgs false in
set_option maxRecDepth 100000 in
set_option maxHeartbeats 8000000 in
/-- Apply -/
theorem apply_any (w : World) (b B0 : Nat) (N : Nat → Dv) (vr va : Nat → Value) (id : Int) (v : Value) (C : List Chg) (hn : NA w b N vr va) (hok : NetOk N) (ho : w.ownsRow B0 45 9 v C.length (flatC C)) (hlen : C.length ≤ 1099511627776) :
    Calls Try.prog 20 #[.pointer (some ⟨b, 0, none⟩), .agg #[.int .i64 id, v]] w (ApplyPost w b vr va (runP N id C).2.2.1 (runP N id C).2.2.2 (applyP N id C)) := by
  obtain ⟨sa, sc, rfl⟩ := own_len ho
  have HE : Hid (Ex (fun _ => False) w (w.alloc (.cells #[.int .i64 id, .slice sa C.length sc] 52))) := (Ex.refl _ w).alloc _
  have HRU := hide (run_any _ b B0 N vr va id (.slice sa C.length sc) C (hn.new HE.out) hok (ho.alloc (.cells #[.int .i64 id, .slice sa C.length sc] 52)) hlen)
  have HN := hide hn
  have nc := fun j u h => new_cells w [.int .i64 id, .slice sa C.length sc] 52 j u h
  have c0 := nc 0 _ rfl
  have c1 := nc 1 _ rfl
  simp only [Addr.add_mid, Nat.zero_add] at c0 c1
  clear nc hn ho
  obtain ⟨N2, U, er, at_, hR⟩ : ∃ a b c d, runP N id C = (a, b, c, d) := ⟨_, _, _, _, rfl⟩
  have HAP : Hid (applyP N id C = if er = 0 then N2 else N) := by show _ = _; unfold applyP; rw [hR]
  rw [hR] at HRU ⊢
  simp only []
  clear hR
  generalize C.length = n at *
  go_enter Try.func20, Try.ntmps20
  go_upto_region 1 with fail
  generalize w.alloc (.cells #[.int .i64 id, .slice sa n sc] 52) = W at *
  generalize w.heap.size = rb at *
  go_wp2_with fail
  refine HRU.out.mono ?_
  rintro e W1 ⟨hex, ⟨hz, rfl⟩ | ⟨hz, hz2, b', ug, ur, ua, rfl, hbb, hna, hun, hfu⟩⟩
  · have HE1 := hide (HE.out.trans hex)
    simp only [] at hz
    rw [if_neg hz] at HAP
    have hzb : (er != 0) = true := by simp [hz]
    clear hex HRU c0 c1
    go_wp2
    refine bodyPost_ret (v := .tuple #[.int .i64 er, .int .i64 at_]) (by simp [results, Try.results20, go_sem]) rfl ⟨rfl, HE1.out.mono (fun _ x => x.elim), vr, va, ?_, fun k hk => .inl hk⟩
    rw [HAP.out]
    exact HN.out.new HE1.out
  · simp only [] at hz hz2
    subst hz hz2
    rw [if_pos rfl] at HAP
    have HE1 := hide (HE.out.trans hex)
    have HN1 := hide (HN.out.new HE1.out)
    have hbl : b < W.heap.size := (HN.out.new HE.out).lt
    have HNA := hide hna
    have HCP := hide (HN1.out.copy hna (by omega))
    have HRG := hide hna.range
    have HTH := hide HN1.out.there
    have HON := hide hna.one
    have HLN := hide (netC_len N2 ur ua)
    have HFT : Hid (∀ k, Foot b ur ua k → k = b ∨ W.heap.size ≤ k) := fun k hk => by
      rcases hk with hk | hk
      · exact .inl hk
      · have := hna.foot_ge (k := k) (.inr hk); right; omega
    have HWS : Hid (w.heap.size ≤ W.heap.size) := HE.out.size
    clear hna hun hfu hex HRU c0 c1
    generalize netC N2 ur ua = cs at *
    go_upto_region 4 with fail
    refine wp_region_lit ?_
    refine wpL_run rfl (.pointer (some ⟨b, 0, none⟩)) _ rfl ?_
    try simp only [Act.put, List.getElem_toArray, List.getElem_cons_zero, List.getElem_cons_succ, List.setIfInBounds_toArray, List.set_cons_zero, List.set_cons_succ]
    refine wpL_run rfl (.pointer (some ⟨b', 0, none⟩)) _ rfl ?_
    try simp only [Act.put, List.getElem_toArray, List.getElem_cons_zero, List.getElem_cons_succ, List.setIfInBounds_toArray, List.set_cons_zero, List.set_cons_succ]
    refine wpL_run rfl (.pointer (some ⟨b', 0, none⟩)) _ rfl ?_
    try simp only [Act.put, List.getElem_toArray, List.getElem_cons_zero, List.getElem_cons_succ, List.setIfInBounds_toArray, List.set_cons_zero, List.set_cons_succ]
    refine wpL_load rfl 71 (.tmp 24) rfl b' 0 rfl cs _ HRG.out Try.underlying71 rfl (by rw [HLN.out]; exact Try.sz71) ?_
    try simp only [Act.put, List.getElem_toArray, List.getElem_cons_zero, List.getElem_cons_succ, List.setIfInBounds_toArray, List.set_cons_zero, List.set_cons_succ]
    refine wpL_run rfl (.pointer (some ⟨b, 0, none⟩)) _ rfl ?_
    try simp only [Act.put, List.getElem_toArray, List.getElem_cons_zero, List.getElem_cons_succ, List.setIfInBounds_toArray, List.set_cons_zero, List.set_cons_succ]
    refine wpL_store rfl 71 (.tmp 26) (.tmp 25) rfl b 0 cs rfl rfl (by rw [HLN.out]; exact HTH.out) (by rw [HLN.out]; exact Try.sz71) HON.out ?_
    try simp only [Act.put, List.getElem_toArray, List.getElem_cons_zero, List.getElem_cons_succ, List.setIfInBounds_toArray, List.set_cons_zero, List.set_cons_succ]
    refine wpList_nil ?_
    have HEF : Hid (Ex (fun k => k = b) w (W1.setCells b 0 cs)) := Ex.sets (S := fun k => k = b) (p := b) rfl _ _ _ (HE1.out.mono (fun _ x => x.elim))
    generalize W1.setCells b 0 cs = W2 at *
    go_wp2
    refine bodyPost_ret (v := .tuple #[.int .i64 0, .int .i64 0]) (by simp [results, Try.results20, go_sem]) rfl ⟨rfl, HEF.out, ur, ua, ?_, fun k hk => ?_⟩
    · rw [HAP.out]; exact HCP.out
    · rcases HFT.out k hk with z | z
      · exact .inl (.inl z)
      · right; have := HWS.out; omega
end Go.Proofs.Qxb6500778a
