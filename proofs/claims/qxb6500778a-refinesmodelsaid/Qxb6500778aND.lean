import Derived.Test.Qxb6500778aNB
namespace Go.Proofs.Qxb6500778a
open Go.RowKit

def dv0 : Dv := ⟨[], [], false, 0⟩
/-- appending a list, or nil, to a nil row -/
theorem step_append_to_nil {P : Program} {w : World} {ops : Array Oper} {o : Oper} {a : Act} {K : Act → World → Prop} {Q : Exit → Act → World → Prop} {E : Prop} (hgd : o.guard = none) (s x : Operand) (t : TypeId)
    (ho : o.op = .call { callee := .builtin .append, args := #[s, x], argTypes := #[t, t] })
    (base : Nat) (e : TypeId) (i : TypeInfo) (z : Value) (size bytes : Nat) (ht : P.underlying t = some (.slice e)) (hi : P.info? e = some i) (hz : i.zero = some z)
    (hsize : i.size = size) (hby : i.bytes = bytes) (hzs : z.cells.size = size) (hsz : 0 < size)
    (hs : a.eval s = .slice none 0 0) (b0 m : Nat) (v : Value) (news : List Value) (hx : a.eval x = v) (hown : w.ownsRow b0 e size v m news) (h1 : ∀ u ∈ news, u.oneCell' = true)
    (h63 : m ≤ 64) (hb64 : bytes ≤ 1000) (hbase : base ≤ w.heap.size)
    (h : ∀ v' w', w'.ownsRow base e size v' m news → w.grownBy w' none → (∀ k, v'.ownBlock = some k → k = w.heap.size) → K (a.put o.dst v') w') :
    if Region.wanted o (yielded ops a.tmps) = true then Oper.wp P o a w K Q else E := by
  have hcs := @World.ownsRow.cells _ _ _ _ _ _ _ hown
  have hlen := hown.1
  rcases hown.2 with ⟨rfl, rfl⟩ | ⟨g, cap, cur, rfl, _⟩
  · have hn : news = [] := List.length_eq_zero_iff.1 (by rw [hlen]; omega)
    subst hn
    rw [if_pos (by simp [Region.wanted, hgd])]
    have hrun := run_append_owned_none (P := P) (w := w) base t o.type e i size ht hi (.slice none 0 0) 0 [] (World.ownsRow_nil w base e size)
    unfold Oper.wp
    simp [execOp, ho, resolve, invoke, builtin, hs, hx, hrun, Result.andThen]
    exact h (.slice none 0 0) w (World.ownsRow_nil w base e size) ⟨rfl, rfl, rfl, Nat.le_refl _, fun _ _ _ => rfl⟩ (fun k hk => by cases hk)
  · refine step_append_at hgd s x t ho base e i z size bytes ht hi hz hsize hby hzs hsz (.slice none 0 0) 0 [] hs (World.ownsRow_nil w base e size) ⟨g, 0, none⟩ m cap news hx hlen (fun j u hj => hcs rfl j u hj) h1 (by unfold maxLen; omega) (by have : (0 + m) * bytes ≤ 64 * 1000 := Nat.mul_le_mul (by omega) hb64; omega) hbase ?_
    intro v' w' ho' hg hat
    rw [Nat.zero_add, List.nil_append] at ho'
    refine h v' w' ho' hg (fun k hk => ?_)
    rcases hat with z | z
    · rw [hk] at z; cases z
    · rw [hk] at z; injection z
def zc : List Value := [.slice none 0 0, .slice none 0 0, .bool false, .int .u16 0]
def zc64 : List Value := (List.replicate 16 ()).flatMap (fun _ => zc)
theorem na_zero (w : World) (t : Nat) : NA (w.alloc (.cells zc64.toArray t)) w.heap.size (fun _ => dv0) (fun _ => .slice none 0 0) (fun _ => .slice none 0 0) := by
  have c : ∀ d, d < 16 → ∀ j, j < 4 → zc64[d * 4 + j]? = zc[j]? := fun d hd j hj => flat_at (fun _ : Unit => zc) 4 (fun _ => rfl) (List.replicate 16 ()) d () (by rw [List.getElem?_replicate, if_pos hd]) j hj
  have n := fun j u h => new_cells w zc64 t j u h
  refine ⟨fun d hd => ?_, fun d hd => ?_, fun d hd => ?_, fun d hd => ?_, fun j => by simp [go_sem], fun d hd => World.ownsRow_nil _ _ _ _, fun d hd => World.ownsRow_nil _ _ _ _, fun _ _ _ _ _ h _ => (by cases h), fun _ _ _ _ _ h _ => (by cases h), fun _ _ _ _ _ h _ => (by cases h)⟩
  · have := n (d * 4 + 0) _ ((c d hd 0 (by omega)).trans rfl); rwa [Addr.add_mid, Nat.zero_add] at this
  · have := n (d * 4 + 1) _ ((c d hd 1 (by omega)).trans rfl); rwa [Addr.add_mid, Nat.zero_add] at this
  · have := n (d * 4 + 2) _ ((c d hd 2 (by omega)).trans rfl); rwa [Addr.add_mid, Nat.zero_add] at this
  · have := n (d * 4 + 3) _ ((c d hd 3 (by omega)).trans rfl); rwa [Addr.add_mid, Nat.zero_add] at this
theorem na_ext {w : World} {b : Nat} {N N' : Nat → Dv} {vr va : Nat → Value} (h : NA w b N vr va) (he : ∀ k, k < 16 → N k = N' k) : NA w b N' vr va :=
  ⟨h.r, h.a, fun d hd => by rw [← he d hd]; exact h.u d hd, fun d hd => by rw [← he d hd]; exact h.l d hd, h.fz, fun d hd => by rw [← he d hd]; exact h.ro d hd, fun d hd => by rw [← he d hd]; exact h.ao d hd, h.rr, h.aa, h.ra⟩
/-- the first d devices are filled -/
def fill (N : Nat → Dv) (d : Nat) : Nat → Dv := fun k => if k < d then N k else dv0
set_option linter.unusedSimpArgs false in
set_option maxRecDepth 100000 in
set_option maxHeartbeats 8000000 in
/-- Clone -/
theorem clone_any (w : World) (b : Nat) (N : Nat → Dv) (vr va : Nat → Value) (hn : NA w b N vr va) (hok : NetOk N) :
    Calls Try.prog 17 #[.pointer (some ⟨b, 0, none⟩)] w fun e w' => e = .returned (.pointer (some ⟨w.heap.size, 0, none⟩)) ∧ Ex (fun _ => False) w w' ∧ ∃ vr' va', NA w' w.heap.size N vr' va' := by
  have HN := hide hn
  have HZ := hide (na_zero w 71)
  have HE : Hid (Ex (fun _ => False) w (w.alloc (.cells zc64.toArray 71))) := (Ex.refl _ w).alloc _
  clear hn
  go_enter Try.func17, Try.ntmps17
  go_upto_region 2 with fail
  rw [show zc64.toArray = #[.slice none 0 0, .slice none 0 0, .bool false, .int .u16 0, .slice none 0 0, .slice none 0 0, .bool false, .int .u16 0, .slice none 0 0, .slice none 0 0, .bool false, .int .u16 0, .slice none 0 0, .slice none 0 0, .bool false, .int .u16 0, .slice none 0 0, .slice none 0 0, .bool false, .int .u16 0, .slice none 0 0, .slice none 0 0, .bool false, .int .u16 0, .slice none 0 0, .slice none 0 0, .bool false, .int .u16 0, .slice none 0 0, .slice none 0 0, .bool false, .int .u16 0, .slice none 0 0, .slice none 0 0, .bool false, .int .u16 0, .slice none 0 0, .slice none 0 0, .bool false, .int .u16 0, .slice none 0 0, .slice none 0 0, .bool false, .int .u16 0, .slice none 0 0, .slice none 0 0, .bool false, .int .u16 0, .slice none 0 0, .slice none 0 0, .bool false, .int .u16 0, .slice none 0 0, .slice none 0 0, .bool false, .int .u16 0, .slice none 0 0, .slice none 0 0, .bool false, .int .u16 0, .slice none 0 0, .slice none 0 0, .bool false, .int .u16 0] from rfl] at HZ HE
  generalize w.alloc (.cells #[.slice none 0 0, .slice none 0 0, .bool false, .int .u16 0, .slice none 0 0, .slice none 0 0, .bool false, .int .u16 0, .slice none 0 0, .slice none 0 0, .bool false, .int .u16 0, .slice none 0 0, .slice none 0 0, .bool false, .int .u16 0, .slice none 0 0, .slice none 0 0, .bool false, .int .u16 0, .slice none 0 0, .slice none 0 0, .bool false, .int .u16 0, .slice none 0 0, .slice none 0 0, .bool false, .int .u16 0, .slice none 0 0, .slice none 0 0, .bool false, .int .u16 0, .slice none 0 0, .slice none 0 0, .bool false, .int .u16 0, .slice none 0 0, .slice none 0 0, .bool false, .int .u16 0, .slice none 0 0, .slice none 0 0, .bool false, .int .u16 0, .slice none 0 0, .slice none 0 0, .bool false, .int .u16 0, .slice none 0 0, .slice none 0 0, .bool false, .int .u16 0, .slice none 0 0, .slice none 0 0, .bool false, .int .u16 0, .slice none 0 0, .slice none 0 0, .bool false, .int .u16 0, .slice none 0 0, .slice none 0 0, .bool false, .int .u16 0] 71) = W0 at *
  generalize Value.agg #[.slice none 0 0, .slice none 0 0, .bool false, .int .u16 0, .slice none 0 0, .slice none 0 0, .bool false, .int .u16 0, .slice none 0 0, .slice none 0 0, .bool false, .int .u16 0, .slice none 0 0, .slice none 0 0, .bool false, .int .u16 0, .slice none 0 0, .slice none 0 0, .bool false, .int .u16 0, .slice none 0 0, .slice none 0 0, .bool false, .int .u16 0, .slice none 0 0, .slice none 0 0, .bool false, .int .u16 0, .slice none 0 0, .slice none 0 0, .bool false, .int .u16 0, .slice none 0 0, .slice none 0 0, .bool false, .int .u16 0, .slice none 0 0, .slice none 0 0, .bool false, .int .u16 0, .slice none 0 0, .slice none 0 0, .bool false, .int .u16 0, .slice none 0 0, .slice none 0 0, .bool false, .int .u16 0, .slice none 0 0, .slice none 0 0, .bool false, .int .u16 0, .slice none 0 0, .slice none 0 0, .bool false, .int .u16 0, .slice none 0 0, .slice none 0 0, .bool false, .int .u16 0, .slice none 0 0, .slice none 0 0, .bool false, .int .u16 0] = A64 at *
  obtain ⟨B, hB⟩ : ∃ B, w.heap.size = B := ⟨_, rfl⟩
  rw [hB] at HZ ⊢
  have HBB := hide hB
  have hbl : b < w.heap.size := HN.out.lt
  have hbB : ¬ b = B := by omega
  obtain ⟨i1, hi, hz0, hz1, hz2⟩ := info_parts Try.inf77
  have HI := hide (And.intro hi (And.intro hz0 (And.intro hz1 hz2)))
  clear hi hz0 hz1 hz2
  obtain ⟨i2, hi, hz0, hz1, hz2⟩ := info_parts Try.inf81
  have HJ := hide (And.intro hi (And.intro hz0 (And.intro hz1 hz2)))
  clear hi hz0 hz1 hz2 hB
  go_wp2_with fail
  go_loopw [4] (fun s4 wr => ∃ (d : Nat), s4 = .int .i64 d ∧ d ≤ 16 ∧ ∃ vr' va', Hid (NA wr B (fill N d) vr' va') ∧ Hid (Ex (fun _ => False) w wr) ∧ Hid (∀ k, d ≤ k → vr' k = .slice none 0 0 ∧ va' k = .slice none 0 0)) (fun s4 _ => 16 - (intOf s4).toNat)
  case atStart => exact ⟨0, rfl, by omega, _, _, HZ, HE, fun k _ => ⟨rfl, rfl⟩⟩
  case round =>
    clear HZ HE
    obtain ⟨d, rfl, hd16, vr', va', HZ, HE, HNI⟩ := hrel
    by_cases hd : d < 16
    · have hdb : decide ((d : Int) < 16) = true := decide_eq_true (by omega)
      have hdi : (d : Int) < 16 := by omega
      have HNw := hide (HN.out.new HE.out)
      have nu := HNw.out.u d hd
      have nl := HNw.out.l d hd
      have m0 := HZ.out.r d hd
      have m1 := HZ.out.a d hd
      have m2 := HZ.out.u d hd
      have m3 := HZ.out.l d hd
      have mf := HZ.out.fz
      obtain ⟨e1, e2⟩ := HNI.out d (Nat.le_refl _)
      rw [e1] at m0
      rw [e2] at m1
      obtain ⟨up, hup⟩ : ∃ x, (N d).up = x := ⟨_, rfl⟩
      obtain ⟨lk, hlk⟩ : ∃ x, (N d).lk = x := ⟨_, rfl⟩
      rw [hup] at nu
      rw [hlk] at nl
      have HZ1 : Hid (NA ((((wr.setCell ⟨B, d * 4, none⟩ (.slice none 0 0)).setCell ⟨B, d * 4 + 1, none⟩ (.slice none 0 0)).setCell ⟨B, d * 4 + 2, none⟩ (.bool up)).setCell ⟨B, d * 4 + 3, none⟩ (.int .u16 lk)) B (upd (fill N d) d ⟨[], [], up, lk⟩) (upd vr' d (.slice none 0 0)) (upd va' d (.slice none 0 0))) := by
        have h1 := HZ.out.setR hd (fun k hk => HZ.out.foot_lt hk) (Ex.refl _ wr) (L := []) (World.ownsRow_nil _ _ _ _) (fun k hk => by cases hk)
        have h2 := h1.setA hd (fun k hk => h1.foot_lt hk) (Ex.refl _ _) (L := []) (World.ownsRow_nil _ _ _ _) (fun k hk => by cases hk)
        have h3 := h2.setU hd up
        have h4 := h3.setL hd lk
        simp only [upd_same, upd_upd] at h4
        exact h4
      have HE1 : Hid (Ex (fun _ => False) w ((((wr.setCell ⟨B, d * 4, none⟩ (.slice none 0 0)).setCell ⟨B, d * 4 + 1, none⟩ (.slice none 0 0)).setCell ⟨B, d * 4 + 2, none⟩ (.bool up)).setCell ⟨B, d * 4 + 3, none⟩ (.int .u16 lk))) := (((HE.out.setNew (p := B) (by have := HBB.out; omega) _).setNew (p := B) (by have := HBB.out; omega) _).setNew (p := B) (by have := HBB.out; omega) _).setNew (p := B) (by have := HBB.out; omega) _
      go_upto_region 6 with fail
      refine wp_region_held_drew (S := fun w' => w'.cell? ⟨b, d * 4 + 2, none⟩ = some (.bool up) ∧ w'.cell? ⟨b, d * 4 + 3, none⟩ = some (.int .u16 lk)) (by kernel_rfl) (And.intro nu nl) (fun hHeld => ?_)
      refine wpAnyH_take (i := 0) (v := ?_) rfl (by kernel_rfl) (by kernel_rfl) (by kernel_rfl) (fun _ _ _ h => h) (Or.inl ⟨by rfl, ?_⟩) (by assumption) ?_
      rotate_left
      · (intro w hSw; (try dsimp only at hSw); go_simp; try (with_reducible rfl))
      try simp only [Act.put, List.getElem_toArray, List.getElem_cons_zero, List.getElem_cons_succ, List.setIfInBounds_toArray, List.set_cons_zero, List.set_cons_succ]
      refine wpAnyH_take (i := 1) (v := ?_) rfl (by kernel_rfl) (by kernel_rfl) (by kernel_rfl) (fun _ _ _ h => h) (Or.inl ⟨by rfl, ?_⟩) (by assumption) ?_
      rotate_left
      · (intro w hSw; (try dsimp only at hSw); go_simp; try (with_reducible rfl))
      try simp only [Act.put, List.getElem_toArray, List.getElem_cons_zero, List.getElem_cons_succ, List.setIfInBounds_toArray, List.set_cons_zero, List.set_cons_succ]
      refine wpAnyH_take (i := 2) (v := ?_) rfl (by kernel_rfl) (by kernel_rfl) (by kernel_rfl) (fun _ _ _ h => h) (Or.inl ⟨by rfl, ?_⟩) (by assumption) ?_
      rotate_left
      · (intro w hSw; (try dsimp only at hSw); go_simp; try (with_reducible rfl))
      try simp only [Act.put, List.getElem_toArray, List.getElem_cons_zero, List.getElem_cons_succ, List.setIfInBounds_toArray, List.set_cons_zero, List.set_cons_succ]
      refine wpAnyH_take (i := 3) (v := ?_) rfl (by kernel_rfl) (by kernel_rfl) (by kernel_rfl) (fun _ _ _ h => h) (Or.inl ⟨by rfl, ?_⟩) (by assumption) ?_
      rotate_left
      · (intro w hSw; (try dsimp only at hSw); go_simp; try (with_reducible rfl))
      try simp only [Act.put, List.getElem_toArray, List.getElem_cons_zero, List.getElem_cons_succ, List.setIfInBounds_toArray, List.set_cons_zero, List.set_cons_succ]
      refine wpAnyH_take (i := 4) (v := ?_) rfl (by kernel_rfl) (by kernel_rfl) (by kernel_rfl) (fun _ _ _ h => h) (Or.inl ⟨by rfl, ?_⟩) (by assumption) ?_
      rotate_left
      · (intro w hSw; (try dsimp only at hSw); go_simp; try (with_reducible rfl))
      try simp only [Act.put, List.getElem_toArray, List.getElem_cons_zero, List.getElem_cons_succ, List.setIfInBounds_toArray, List.set_cons_zero, List.set_cons_succ]
      refine wpAnyH_take (i := 5) (v := ?_) rfl (by kernel_rfl) (by kernel_rfl) (by kernel_rfl) (fun _ _ _ h => h) (Or.inl ⟨by rfl, ?_⟩) (by assumption) ?_
      rotate_left
      · (intro w hSw; (try dsimp only at hSw); go_simp; try (with_reducible rfl))
      try simp only [Act.put, List.getElem_toArray, List.getElem_cons_zero, List.getElem_cons_succ, List.setIfInBounds_toArray, List.set_cons_zero, List.set_cons_succ]
      refine wpAnyH_take (i := 6) (v := ?_) rfl (by kernel_rfl) (by kernel_rfl) (by kernel_rfl) (fun _ _ _ h => h) (Or.inl ⟨by rfl, ?_⟩) (by assumption) ?_
      rotate_left
      · (intro w hSw; (try dsimp only at hSw); go_simp; try (with_reducible rfl))
      try simp only [Act.put, List.getElem_toArray, List.getElem_cons_zero, List.getElem_cons_succ, List.setIfInBounds_toArray, List.set_cons_zero, List.set_cons_succ]
      refine wpAnyH_take (i := 7) (v := ?_) rfl (by kernel_rfl) (by kernel_rfl) (by kernel_rfl) (fun _ _ _ h => h) (Or.inl ⟨by rfl, ?_⟩) (by assumption) ?_
      rotate_left
      · (intro w hSw; (try dsimp only at hSw); go_simp; try (with_reducible rfl))
      try simp only [Act.put, List.getElem_toArray, List.getElem_cons_zero, List.getElem_cons_succ, List.setIfInBounds_toArray, List.set_cons_zero, List.set_cons_succ]
      refine wpAnyH_take (i := 8) (v := ?_) rfl (by kernel_rfl) (by kernel_rfl) (by kernel_rfl) (fun _ _ _ h => h) (Or.inl ⟨by rfl, ?_⟩) (by assumption) ?_
      rotate_left
      · (intro w hSw; (try dsimp only at hSw); go_simp; try (with_reducible rfl))
      try simp only [Act.put, List.getElem_toArray, List.getElem_cons_zero, List.getElem_cons_succ, List.setIfInBounds_toArray, List.set_cons_zero, List.set_cons_succ]
      refine wpAnyH_take (i := 9) (v := ?_) rfl (by kernel_rfl) (by kernel_rfl) (by kernel_rfl) (fun _ _ _ h => h) (Or.inl ⟨by rfl, ?_⟩) (by assumption) ?_
      rotate_left
      · (intro w hSw; (try dsimp only at hSw); go_simp; try (with_reducible rfl))
      try simp only [Act.put, List.getElem_toArray, List.getElem_cons_zero, List.getElem_cons_succ, List.setIfInBounds_toArray, List.set_cons_zero, List.set_cons_succ]
      refine wpAnyH_take (i := 10) (v := ?_) rfl (by kernel_rfl) (by kernel_rfl) (by kernel_rfl) (fun _ _ _ h => h) (Or.inl ⟨by rfl, ?_⟩) (by assumption) ?_
      rotate_left
      · (intro w hSw; (try dsimp only at hSw); go_simp; try (with_reducible rfl))
      try simp only [Act.put, List.getElem_toArray, List.getElem_cons_zero, List.getElem_cons_succ, List.setIfInBounds_toArray, List.set_cons_zero, List.set_cons_succ]
      refine wpAnyH_take (i := 11) (v := ?_) rfl (by kernel_rfl) (by kernel_rfl) (by kernel_rfl) (fun _ _ _ h => h) (Or.inl ⟨by rfl, ?_⟩) (by assumption) ?_
      rotate_left
      · (intro w hSw; (try dsimp only at hSw); go_simp; try (with_reducible rfl))
      try simp only [Act.put, List.getElem_toArray, List.getElem_cons_zero, List.getElem_cons_succ, List.setIfInBounds_toArray, List.set_cons_zero, List.set_cons_succ]
      refine wpAnyH_take (i := 12) (v := ?_) rfl (by kernel_rfl) (by kernel_rfl) (by kernel_rfl) (fun _ _ _ h => h) (Or.inl ⟨by rfl, ?_⟩) (by assumption) ?_
      rotate_left
      · (intro w hSw; (try dsimp only at hSw); go_simp; try (with_reducible rfl))
      try simp only [Act.put, List.getElem_toArray, List.getElem_cons_zero, List.getElem_cons_succ, List.setIfInBounds_toArray, List.set_cons_zero, List.set_cons_succ]
      refine wpAnyH_take (i := 13) (v := ?_) rfl (by kernel_rfl) (by kernel_rfl) (by kernel_rfl) (fun _ _ _ h => h) (Or.inl ⟨by rfl, ?_⟩) (by assumption) ?_
      rotate_left
      · (intro w hSw; (try dsimp only at hSw); go_simp; try (with_reducible rfl))
      try simp only [Act.put, List.getElem_toArray, List.getElem_cons_zero, List.getElem_cons_succ, List.setIfInBounds_toArray, List.set_cons_zero, List.set_cons_succ]
      refine wpAnyH_ready (rs := [14]) (by kernel_rfl) (by simp) ?_
      refine (AllReadyH.cons rfl (fun K hK => ?_) AllReadyH.nil)
      · go_simp
        refine hK.out _ _ ?_ (fun hHeld => ?_)
        · first | exact hHeld | (simp [go_sem, nu, nl, hbB]; done)
        clear hK K
        try simp only [Act.put, List.getElem_toArray, List.getElem_cons_zero, List.getElem_cons_succ, List.setIfInBounds_toArray, List.set_cons_zero, List.set_cons_succ]
        refine wpAnyH_done (by kernel_rfl) ?_ _
        clear hHeld nu nl m0 m1 m2 m3 mf HZ HE HNw e1 e2
        replace HZ1 := hide (HZ1.out.drewN 1)
        replace HE1 := hide (HE1.out.drewN 1)
        rw [drewN1] at HZ1 HE1
        have HUP := hide hup
        have HLK := hide hlk
        clear hup hlk
        generalize ((((wr.setCell ⟨B, d * 4, none⟩ (.slice none 0 0)).setCell ⟨B, d * 4 + 1, none⟩ (.slice none 0 0)).setCell ⟨B, d * 4 + 2, none⟩ (.bool up)).setCell ⟨B, d * 4 + 3, none⟩ (.int .u16 lk)).drew = W1 at *
        have HNw := hide (HN.out.new HE1.out)
        have ns := HNw.out.r d hd
        have ms := HZ1.out.r d hd
        rw [upd_same] at ms
        have mf := HZ1.out.fz
        have HO := hide (HNw.out.ro d hd)
        have hlen := (hok d hd).cap
        have hBl := HZ1.out.lt
        have HSZ : Hid (B + 1 ≤ W1.drew.heap.size) := hBl
        have HOd : Hid (W1.drew.ownsRow (b + 1) 77 3 (vr d) (N d).rt.length (flatR (N d).rt)) := own_kept HO.out ((Ex.refl (fun _ => False) W1).drew) (fun _ _ e => e)
        obtain ⟨sa, sc, hsv⟩ := own_len HO.out
        rw [hsv] at ns
        rw [hsv] at HOd
        go_upto_region 7 with fail
        refine wp_region_held_drew (S := fun w' => w'.cell? ⟨b, d * 4, none⟩ = some (.slice sa (N d).rt.length sc)) (by kernel_rfl) ns (fun hHeld => ?_)
        refine wpAnyH_take (i := 0) (v := ?_) rfl (by kernel_rfl) (by kernel_rfl) (by kernel_rfl) (fun _ _ _ h => h) (Or.inl ⟨by rfl, ?_⟩) (by assumption) ?_
        rotate_left
        · (intro w hSw; (try dsimp only at hSw); go_simp; try (with_reducible rfl))
        try simp only [Act.put, List.getElem_toArray, List.getElem_cons_zero, List.getElem_cons_succ, List.setIfInBounds_toArray, List.set_cons_zero, List.set_cons_succ]
        refine wpAnyH_take (i := 1) (v := ?_) rfl (by kernel_rfl) (by kernel_rfl) (by kernel_rfl) (fun _ _ _ h => h) (Or.inl ⟨by rfl, ?_⟩) (by assumption) ?_
        rotate_left
        · (intro w hSw; (try dsimp only at hSw); go_simp; try (with_reducible rfl))
        try simp only [Act.put, List.getElem_toArray, List.getElem_cons_zero, List.getElem_cons_succ, List.setIfInBounds_toArray, List.set_cons_zero, List.set_cons_succ]
        refine wpAnyH_take (i := 2) (v := ?_) rfl (by kernel_rfl) (by kernel_rfl) (by kernel_rfl) (fun _ _ _ h => h) (Or.inl ⟨by rfl, ?_⟩) (by assumption) ?_
        rotate_left
        · (intro w hSw; (try dsimp only at hSw); go_simp; try (with_reducible rfl))
        try simp only [Act.put, List.getElem_toArray, List.getElem_cons_zero, List.getElem_cons_succ, List.setIfInBounds_toArray, List.set_cons_zero, List.set_cons_succ]
        refine wpAnyH_take (i := 3) (v := ?_) rfl (by kernel_rfl) (by kernel_rfl) (by kernel_rfl) (fun _ _ _ h => h) (Or.inl ⟨by rfl, ?_⟩) (by assumption) ?_
        rotate_left
        · (intro w hSw; (try dsimp only at hSw); go_simp; try (with_reducible rfl))
        try simp only [Act.put, List.getElem_toArray, List.getElem_cons_zero, List.getElem_cons_succ, List.setIfInBounds_toArray, List.set_cons_zero, List.set_cons_succ]
        refine wpAnyH_take (i := 4) (v := ?_) rfl (by kernel_rfl) (by kernel_rfl) (by kernel_rfl) (fun _ _ _ h => h) (Or.inl ⟨by rfl, ?_⟩) (by assumption) ?_
        rotate_left
        · (intro w hSw; (try dsimp only at hSw); go_simp; try (with_reducible rfl))
        try simp only [Act.put, List.getElem_toArray, List.getElem_cons_zero, List.getElem_cons_succ, List.setIfInBounds_toArray, List.set_cons_zero, List.set_cons_succ]
        refine wpAnyH_take (i := 5) (v := ?_) rfl (by kernel_rfl) (by kernel_rfl) (by kernel_rfl) (fun _ _ _ h => h) (Or.inl ⟨by rfl, ?_⟩) (by assumption) ?_
        rotate_left
        · (intro w hSw; (try dsimp only at hSw); go_simp; try (with_reducible rfl))
        try simp only [Act.put, List.getElem_toArray, List.getElem_cons_zero, List.getElem_cons_succ, List.setIfInBounds_toArray, List.set_cons_zero, List.set_cons_succ]
        refine wpAnyH_take (i := 6) (v := ?_) rfl (by kernel_rfl) (by kernel_rfl) (by kernel_rfl) (fun _ _ _ h => h) (Or.inl ⟨by rfl, ?_⟩) (by assumption) ?_
        rotate_left
        · (intro w hSw; (try dsimp only at hSw); go_simp; try (with_reducible rfl))
        try simp only [Act.put, List.getElem_toArray, List.getElem_cons_zero, List.getElem_cons_succ, List.setIfInBounds_toArray, List.set_cons_zero, List.set_cons_succ]
        refine wpAnyH_take (i := 7) (v := ?_) rfl (by kernel_rfl) (by kernel_rfl) (by kernel_rfl) (fun _ _ _ h => h) (Or.inl ⟨by rfl, ?_⟩) (by assumption) ?_
        rotate_left
        · (intro w hSw; (try dsimp only at hSw); go_simp; try (with_reducible rfl))
        try simp only [Act.put, List.getElem_toArray, List.getElem_cons_zero, List.getElem_cons_succ, List.setIfInBounds_toArray, List.set_cons_zero, List.set_cons_succ]
        refine wpAnyH_take (i := 9) (v := ?_) rfl (by kernel_rfl) (by kernel_rfl) (by kernel_rfl) (fun _ _ _ h => h) (Or.inl ⟨by rfl, ?_⟩) (by assumption) ?_
        rotate_left
        · (intro w hSw; (try dsimp only at hSw); go_simp; try (with_reducible rfl))
        try simp only [Act.put, List.getElem_toArray, List.getElem_cons_zero, List.getElem_cons_succ, List.setIfInBounds_toArray, List.set_cons_zero, List.set_cons_succ]
        refine wpAnyH_take (i := 10) (v := ?_) rfl (by kernel_rfl) (by kernel_rfl) (by kernel_rfl) (fun _ _ _ h => h) (Or.inl ⟨by rfl, ?_⟩) (by assumption) ?_
        rotate_left
        · (intro w hSw; (try dsimp only at hSw); go_simp; try (with_reducible rfl))
        try simp only [Act.put, List.getElem_toArray, List.getElem_cons_zero, List.getElem_cons_succ, List.setIfInBounds_toArray, List.set_cons_zero, List.set_cons_succ]
        refine wpAnyH_take (i := 11) (v := ?_) rfl (by kernel_rfl) (by kernel_rfl) (by kernel_rfl) (fun _ _ _ h => h) (Or.inl ⟨by rfl, ?_⟩) (by assumption) ?_
        rotate_left
        · (intro w hSw; (try dsimp only at hSw); go_simp; try (with_reducible rfl))
        try simp only [Act.put, List.getElem_toArray, List.getElem_cons_zero, List.getElem_cons_succ, List.setIfInBounds_toArray, List.set_cons_zero, List.set_cons_succ]
        refine wpAnyH_take (i := 12) (v := ?_) rfl (by kernel_rfl) (by kernel_rfl) (by kernel_rfl) (fun _ _ _ h => h) (Or.inl ⟨by rfl, ?_⟩) (by assumption) ?_
        rotate_left
        · (intro w hSw; (try dsimp only at hSw); go_simp; try (with_reducible rfl))
        try simp only [Act.put, List.getElem_toArray, List.getElem_cons_zero, List.getElem_cons_succ, List.setIfInBounds_toArray, List.set_cons_zero, List.set_cons_succ]
        refine wpAnyH_take (i := 14) (v := ?_) rfl (by kernel_rfl) (by kernel_rfl) (by kernel_rfl) (fun _ _ _ h => h) (Or.inl ⟨by rfl, ?_⟩) (by assumption) ?_
        rotate_left
        · (intro w hSw; (try dsimp only at hSw); go_simp; try (with_reducible rfl))
        try simp only [Act.put, List.getElem_toArray, List.getElem_cons_zero, List.getElem_cons_succ, List.setIfInBounds_toArray, List.set_cons_zero, List.set_cons_succ]
        refine wpAnyH_take (i := 15) (v := ?_) rfl (by kernel_rfl) (by kernel_rfl) (by kernel_rfl) (fun _ _ _ h => h) (Or.inl ⟨by rfl, ?_⟩) (by assumption) ?_
        rotate_left
        · (intro w hSw; (try dsimp only at hSw); go_simp; try (with_reducible rfl))
        try simp only [Act.put, List.getElem_toArray, List.getElem_cons_zero, List.getElem_cons_succ, List.setIfInBounds_toArray, List.set_cons_zero, List.set_cons_succ]
        refine wpAnyH_ready (rs := [8]) (by kernel_rfl) (by simp) ?_
        refine (AllReadyH.cons rfl (fun K hK => ?_) AllReadyH.nil)
        · go_simp
          refine hK.out _ _ ?_ (fun hHeld => ?_)
          · first | exact hHeld | exact HEX.out.cell (fun e => e) ns | (rw [set_cell_ne _ _ _ _ _ _ hbB]; exact HEX.out.cell (fun e => e) ns)
          clear hK K
          try simp only [Act.put, List.getElem_toArray, List.getElem_cons_zero, List.getElem_cons_succ, List.setIfInBounds_toArray, List.set_cons_zero, List.set_cons_succ]
          refine wpAnyH_ready (rs := [13]) (by kernel_rfl) (by simp) ?_
          refine (AllReadyH.cons rfl (fun K hK => ?_) AllReadyH.nil)
          · refine step_append_to_nil rfl (.tmp 39) (.tmp 43) 27 rfl (B + 1) 77 i1 _ 3 24 Try.underlying27 HI.out.1 HI.out.2.1 HI.out.2.2.1 HI.out.2.2.2 rfl (by decide) rfl (b + 1) (N d).rt.length (.slice sa (N d).rt.length sc) (flatR (N d).rt) rfl HOd.out (rt_one _) (by omega) (by decide) HSZ.out ?_
            intro v' w4 hown hgrow hat
            obtain ⟨sa4, sc4, rfl⟩ := own_len hown
            have HOW4 := hide hown
            have HAT := hide hat
            have hex : Ex (fun _ => False) W1 w4 := Ex.of_drew (Ex.ofGrown hgrow (fun k hk => by cases hk))
            have HEX := hide hex
            have ms4 : w4.cell? ⟨B, d * 4, none⟩ = some (.slice none 0 0) := hex.cell (fun e => e) ms
            have mf4 : w4.frozen? ⟨B, d * 4, none⟩ = false := (hex.frozen (fun e => e) hBl).trans (mf _)
            clear hown hgrow hat hex
            refine hK.out _ _ ?_ (fun hHeld => ?_)
            · first | exact hHeld | exact HEX.out.cell (fun e => e) ns | (rw [set_cell_ne _ _ _ _ _ _ hbB]; exact HEX.out.cell (fun e => e) ns)
            clear hK K
            try simp only [Act.put, List.getElem_toArray, List.getElem_cons_zero, List.getElem_cons_succ, List.setIfInBounds_toArray, List.set_cons_zero, List.set_cons_succ]
            refine wpAnyH_take (i := 16) (v := ?_) rfl (by kernel_rfl) (by kernel_rfl) (by kernel_rfl) (fun _ _ _ h => h) (Or.inl ⟨by rfl, ?_⟩) (by assumption) ?_
            rotate_left
            · (intro w hSw; (try dsimp only at hSw); go_simp; try (with_reducible rfl))
            try simp only [Act.put, List.getElem_toArray, List.getElem_cons_zero, List.getElem_cons_succ, List.setIfInBounds_toArray, List.set_cons_zero, List.set_cons_succ]
            refine wpAnyH_take (i := 17) (v := ?_) rfl (by kernel_rfl) (by kernel_rfl) (by kernel_rfl) (fun _ _ _ h => h) (Or.inl ⟨by rfl, ?_⟩) (by assumption) ?_
            rotate_left
            · (intro w hSw; (try dsimp only at hSw); go_simp; try (with_reducible rfl))
            try simp only [Act.put, List.getElem_toArray, List.getElem_cons_zero, List.getElem_cons_succ, List.setIfInBounds_toArray, List.set_cons_zero, List.set_cons_succ]
            refine wpAnyH_ready (rs := [18]) (by kernel_rfl) (by simp) ?_
            refine (AllReadyH.cons rfl (fun K hK => ?_) AllReadyH.nil)
            · go_simp
              refine hK.out _ _ ?_ (fun hHeld => ?_)
              · first | exact hHeld | exact HEX.out.cell (fun e => e) ns | (rw [set_cell_ne _ _ _ _ _ _ hbB]; exact HEX.out.cell (fun e => e) ns)
              clear hK K
              try simp only [Act.put, List.getElem_toArray, List.getElem_cons_zero, List.getElem_cons_succ, List.setIfInBounds_toArray, List.set_cons_zero, List.set_cons_succ]
              refine wpAnyH_done (by kernel_rfl) ?_ _
              have HZ2 : Hid (NA (w4.setCell ⟨B, d * 4, none⟩ (.slice sa4 (N d).rt.length sc4)) B (upd (fill N d) d ⟨(N d).rt, [], up, lk⟩) (upd vr' d (.slice sa4 (N d).rt.length sc4)) (upd va' d (.slice none 0 0))) := by
                have h := HZ1.out.setR hd (fun k hk => HZ1.out.foot_lt hk) (HEX.out.mono (fun _ x => x.elim)) HOW4.out (fun k hk => .inr (by rw [HAT.out k hk]; exact Nat.le_refl _))
                simp only [upd_same, upd_upd] at h
                exact h
              have HE2 : Hid (Ex (fun _ => False) w (w4.setCell ⟨B, d * 4, none⟩ (.slice sa4 (N d).rt.length sc4))) := (HE1.out.trans HEX.out).setNew (p := B) (by have := HBB.out; omega) _
              clear HZ1 HE1 HNw ns ms mf HO HOd hsv HSZ HOW4 HAT HEX ms4 mf4 hBl hHeld
              generalize w4.setCell ⟨B, d * 4, none⟩ (.slice sa4 (N d).rt.length sc4) = W2 at *
              obtain ⟨sa5, hsa5⟩ : ∃ x, sa4 = x := ⟨_, rfl⟩
              obtain ⟨sc5, hsc5⟩ : ∃ x, sc4 = x := ⟨_, rfl⟩
              rw [hsa5, hsc5] at HZ2
              clear hsa5 hsc5
              have HNw := hide (HN.out.new HE2.out)
              have ns := HNw.out.a d hd
              have ms := HZ2.out.a d hd
              rw [upd_same] at ms
              have mf := HZ2.out.fz
              have HO := hide (HNw.out.ao d hd)
              have hlen := (hok d hd).cap
              have hBl := HZ2.out.lt
              have HSZ : Hid (B + 1 ≤ W2.drew.heap.size) := hBl
              have HOd : Hid (W2.drew.ownsRow (b + 1) 81 4 (va d) (N d).ac.length (flatA (N d).ac)) := own_kept HO.out ((Ex.refl (fun _ => False) W2).drew) (fun _ _ e => e)
              obtain ⟨sa, sc, hsv⟩ := own_len HO.out
              rw [hsv] at ns
              rw [hsv] at HOd
              go_upto_region 8 with fail
              refine wp_region_held_drew (S := fun w' => w'.cell? ⟨b, d * 4 + 1, none⟩ = some (.slice sa (N d).ac.length sc)) (by kernel_rfl) ns (fun hHeld => ?_)
              refine wpAnyH_take (i := 0) (v := ?_) rfl (by kernel_rfl) (by kernel_rfl) (by kernel_rfl) (fun _ _ _ h => h) (Or.inl ⟨by rfl, ?_⟩) (by assumption) ?_
              rotate_left
              · (intro w hSw; (try dsimp only at hSw); go_simp; try (with_reducible rfl))
              try simp only [Act.put, List.getElem_toArray, List.getElem_cons_zero, List.getElem_cons_succ, List.setIfInBounds_toArray, List.set_cons_zero, List.set_cons_succ]
              refine wpAnyH_take (i := 1) (v := ?_) rfl (by kernel_rfl) (by kernel_rfl) (by kernel_rfl) (fun _ _ _ h => h) (Or.inl ⟨by rfl, ?_⟩) (by assumption) ?_
              rotate_left
              · (intro w hSw; (try dsimp only at hSw); go_simp; try (with_reducible rfl))
              try simp only [Act.put, List.getElem_toArray, List.getElem_cons_zero, List.getElem_cons_succ, List.setIfInBounds_toArray, List.set_cons_zero, List.set_cons_succ]
              refine wpAnyH_take (i := 2) (v := ?_) rfl (by kernel_rfl) (by kernel_rfl) (by kernel_rfl) (fun _ _ _ h => h) (Or.inl ⟨by rfl, ?_⟩) (by assumption) ?_
              rotate_left
              · (intro w hSw; (try dsimp only at hSw); go_simp; try (with_reducible rfl))
              try simp only [Act.put, List.getElem_toArray, List.getElem_cons_zero, List.getElem_cons_succ, List.setIfInBounds_toArray, List.set_cons_zero, List.set_cons_succ]
              refine wpAnyH_take (i := 3) (v := ?_) rfl (by kernel_rfl) (by kernel_rfl) (by kernel_rfl) (fun _ _ _ h => h) (Or.inl ⟨by rfl, ?_⟩) (by assumption) ?_
              rotate_left
              · (intro w hSw; (try dsimp only at hSw); go_simp; try (with_reducible rfl))
              try simp only [Act.put, List.getElem_toArray, List.getElem_cons_zero, List.getElem_cons_succ, List.setIfInBounds_toArray, List.set_cons_zero, List.set_cons_succ]
              refine wpAnyH_take (i := 4) (v := ?_) rfl (by kernel_rfl) (by kernel_rfl) (by kernel_rfl) (fun _ _ _ h => h) (Or.inl ⟨by rfl, ?_⟩) (by assumption) ?_
              rotate_left
              · (intro w hSw; (try dsimp only at hSw); go_simp; try (with_reducible rfl))
              try simp only [Act.put, List.getElem_toArray, List.getElem_cons_zero, List.getElem_cons_succ, List.setIfInBounds_toArray, List.set_cons_zero, List.set_cons_succ]
              refine wpAnyH_take (i := 5) (v := ?_) rfl (by kernel_rfl) (by kernel_rfl) (by kernel_rfl) (fun _ _ _ h => h) (Or.inl ⟨by rfl, ?_⟩) (by assumption) ?_
              rotate_left
              · (intro w hSw; (try dsimp only at hSw); go_simp; try (with_reducible rfl))
              try simp only [Act.put, List.getElem_toArray, List.getElem_cons_zero, List.getElem_cons_succ, List.setIfInBounds_toArray, List.set_cons_zero, List.set_cons_succ]
              refine wpAnyH_take (i := 6) (v := ?_) rfl (by kernel_rfl) (by kernel_rfl) (by kernel_rfl) (fun _ _ _ h => h) (Or.inl ⟨by rfl, ?_⟩) (by assumption) ?_
              rotate_left
              · (intro w hSw; (try dsimp only at hSw); go_simp; try (with_reducible rfl))
              try simp only [Act.put, List.getElem_toArray, List.getElem_cons_zero, List.getElem_cons_succ, List.setIfInBounds_toArray, List.set_cons_zero, List.set_cons_succ]
              refine wpAnyH_take (i := 7) (v := ?_) rfl (by kernel_rfl) (by kernel_rfl) (by kernel_rfl) (fun _ _ _ h => h) (Or.inl ⟨by rfl, ?_⟩) (by assumption) ?_
              rotate_left
              · (intro w hSw; (try dsimp only at hSw); go_simp; try (with_reducible rfl))
              try simp only [Act.put, List.getElem_toArray, List.getElem_cons_zero, List.getElem_cons_succ, List.setIfInBounds_toArray, List.set_cons_zero, List.set_cons_succ]
              refine wpAnyH_take (i := 9) (v := ?_) rfl (by kernel_rfl) (by kernel_rfl) (by kernel_rfl) (fun _ _ _ h => h) (Or.inl ⟨by rfl, ?_⟩) (by assumption) ?_
              rotate_left
              · (intro w hSw; (try dsimp only at hSw); go_simp; try (with_reducible rfl))
              try simp only [Act.put, List.getElem_toArray, List.getElem_cons_zero, List.getElem_cons_succ, List.setIfInBounds_toArray, List.set_cons_zero, List.set_cons_succ]
              refine wpAnyH_take (i := 10) (v := ?_) rfl (by kernel_rfl) (by kernel_rfl) (by kernel_rfl) (fun _ _ _ h => h) (Or.inl ⟨by rfl, ?_⟩) (by assumption) ?_
              rotate_left
              · (intro w hSw; (try dsimp only at hSw); go_simp; try (with_reducible rfl))
              try simp only [Act.put, List.getElem_toArray, List.getElem_cons_zero, List.getElem_cons_succ, List.setIfInBounds_toArray, List.set_cons_zero, List.set_cons_succ]
              refine wpAnyH_take (i := 11) (v := ?_) rfl (by kernel_rfl) (by kernel_rfl) (by kernel_rfl) (fun _ _ _ h => h) (Or.inl ⟨by rfl, ?_⟩) (by assumption) ?_
              rotate_left
              · (intro w hSw; (try dsimp only at hSw); go_simp; try (with_reducible rfl))
              try simp only [Act.put, List.getElem_toArray, List.getElem_cons_zero, List.getElem_cons_succ, List.setIfInBounds_toArray, List.set_cons_zero, List.set_cons_succ]
              refine wpAnyH_take (i := 12) (v := ?_) rfl (by kernel_rfl) (by kernel_rfl) (by kernel_rfl) (fun _ _ _ h => h) (Or.inl ⟨by rfl, ?_⟩) (by assumption) ?_
              rotate_left
              · (intro w hSw; (try dsimp only at hSw); go_simp; try (with_reducible rfl))
              try simp only [Act.put, List.getElem_toArray, List.getElem_cons_zero, List.getElem_cons_succ, List.setIfInBounds_toArray, List.set_cons_zero, List.set_cons_succ]
              refine wpAnyH_take (i := 14) (v := ?_) rfl (by kernel_rfl) (by kernel_rfl) (by kernel_rfl) (fun _ _ _ h => h) (Or.inl ⟨by rfl, ?_⟩) (by assumption) ?_
              rotate_left
              · (intro w hSw; (try dsimp only at hSw); go_simp; try (with_reducible rfl))
              try simp only [Act.put, List.getElem_toArray, List.getElem_cons_zero, List.getElem_cons_succ, List.setIfInBounds_toArray, List.set_cons_zero, List.set_cons_succ]
              refine wpAnyH_take (i := 15) (v := ?_) rfl (by kernel_rfl) (by kernel_rfl) (by kernel_rfl) (fun _ _ _ h => h) (Or.inl ⟨by rfl, ?_⟩) (by assumption) ?_
              rotate_left
              · (intro w hSw; (try dsimp only at hSw); go_simp; try (with_reducible rfl))
              try simp only [Act.put, List.getElem_toArray, List.getElem_cons_zero, List.getElem_cons_succ, List.setIfInBounds_toArray, List.set_cons_zero, List.set_cons_succ]
              refine wpAnyH_ready (rs := [8]) (by kernel_rfl) (by simp) ?_
              refine (AllReadyH.cons rfl (fun K hK => ?_) AllReadyH.nil)
              · go_simp
                refine hK.out _ _ ?_ (fun hHeld => ?_)
                · first | exact hHeld | exact HEX.out.cell (fun e => e) ns | (rw [set_cell_ne _ _ _ _ _ _ hbB]; exact HEX.out.cell (fun e => e) ns)
                clear hK K
                try simp only [Act.put, List.getElem_toArray, List.getElem_cons_zero, List.getElem_cons_succ, List.setIfInBounds_toArray, List.set_cons_zero, List.set_cons_succ]
                refine wpAnyH_ready (rs := [13]) (by kernel_rfl) (by simp) ?_
                refine (AllReadyH.cons rfl (fun K hK => ?_) AllReadyH.nil)
                · refine step_append_to_nil rfl (.tmp 57) (.tmp 61) 29 rfl (B + 1) 81 i2 _ 4 32 Try.underlying29 HJ.out.1 HJ.out.2.1 HJ.out.2.2.1 HJ.out.2.2.2 rfl (by decide) rfl (b + 1) (N d).ac.length (.slice sa (N d).ac.length sc) (flatA (N d).ac) rfl HOd.out (rl_one _) (by omega) (by decide) HSZ.out ?_
                  intro v' w4 hown hgrow hat
                  obtain ⟨sa4, sc4, rfl⟩ := own_len hown
                  have HOW4 := hide hown
                  have HAT := hide hat
                  have hex : Ex (fun _ => False) W2 w4 := Ex.of_drew (Ex.ofGrown hgrow (fun k hk => by cases hk))
                  have HEX := hide hex
                  have ms4 : w4.cell? ⟨B, d * 4 + 1, none⟩ = some (.slice none 0 0) := hex.cell (fun e => e) ms
                  have mf4 : w4.frozen? ⟨B, d * 4 + 1, none⟩ = false := (hex.frozen (fun e => e) hBl).trans (mf _)
                  clear hown hgrow hat hex
                  refine hK.out _ _ ?_ (fun hHeld => ?_)
                  · first | exact hHeld | exact HEX.out.cell (fun e => e) ns | (rw [set_cell_ne _ _ _ _ _ _ hbB]; exact HEX.out.cell (fun e => e) ns)
                  clear hK K
                  try simp only [Act.put, List.getElem_toArray, List.getElem_cons_zero, List.getElem_cons_succ, List.setIfInBounds_toArray, List.set_cons_zero, List.set_cons_succ]
                  refine wpAnyH_take (i := 16) (v := ?_) rfl (by kernel_rfl) (by kernel_rfl) (by kernel_rfl) (fun _ _ _ h => h) (Or.inl ⟨by rfl, ?_⟩) (by assumption) ?_
                  rotate_left
                  · (intro w hSw; (try dsimp only at hSw); go_simp; try (with_reducible rfl))
                  try simp only [Act.put, List.getElem_toArray, List.getElem_cons_zero, List.getElem_cons_succ, List.setIfInBounds_toArray, List.set_cons_zero, List.set_cons_succ]
                  refine wpAnyH_take (i := 17) (v := ?_) rfl (by kernel_rfl) (by kernel_rfl) (by kernel_rfl) (fun _ _ _ h => h) (Or.inl ⟨by rfl, ?_⟩) (by assumption) ?_
                  rotate_left
                  · (intro w hSw; (try dsimp only at hSw); go_simp; try (with_reducible rfl))
                  try simp only [Act.put, List.getElem_toArray, List.getElem_cons_zero, List.getElem_cons_succ, List.setIfInBounds_toArray, List.set_cons_zero, List.set_cons_succ]
                  refine wpAnyH_ready (rs := [18]) (by kernel_rfl) (by simp) ?_
                  refine (AllReadyH.cons rfl (fun K hK => ?_) AllReadyH.nil)
                  · go_simp
                    refine hK.out _ _ ?_ (fun hHeld => ?_)
                    · first | exact hHeld | exact HEX.out.cell (fun e => e) ns | (rw [set_cell_ne _ _ _ _ _ _ hbB]; exact HEX.out.cell (fun e => e) ns)
                    clear hK K
                    try simp only [Act.put, List.getElem_toArray, List.getElem_cons_zero, List.getElem_cons_succ, List.setIfInBounds_toArray, List.set_cons_zero, List.set_cons_succ]
                    refine wpAnyH_done (by kernel_rfl) ?_ _
                    have HZ3 : Hid (NA (w4.setCell ⟨B, d * 4 + 1, none⟩ (.slice sa4 (N d).ac.length sc4)) B (upd (fill N d) d ⟨(N d).rt, (N d).ac, up, lk⟩) (upd vr' d (.slice sa5 (N d).rt.length sc5)) (upd va' d (.slice sa4 (N d).ac.length sc4))) := by
                      have h := HZ2.out.setA hd (fun k hk => HZ2.out.foot_lt hk) (HEX.out.mono (fun _ x => x.elim)) HOW4.out (fun k hk => .inr (by rw [HAT.out k hk]; exact Nat.le_refl _))
                      simp only [upd_same, upd_upd] at h
                      exact h
                    have HE3 : Hid (Ex (fun _ => False) w (w4.setCell ⟨B, d * 4 + 1, none⟩ (.slice sa4 (N d).ac.length sc4))) := (HE2.out.trans HEX.out).setNew (p := B) (by have := HBB.out; omega) _
                    clear HZ2 HE2 HNw ns ms mf HO HOd hsv HSZ HOW4 HAT HEX ms4 mf4 hBl hHeld
                    generalize w4.setCell ⟨B, d * 4 + 1, none⟩ (.slice sa4 (N d).ac.length sc4) = W3 at *
                    go_wp2
                    go_roundw
                    case rel =>
                      refine ⟨d + 1, by go_num, by omega, _, _, hide (na_ext HZ3.out (fun k hk => ?_)), HE3, fun k hk => ⟨?_, ?_⟩⟩
                      · unfold fill upd
                        by_cases hkd : k = d
                        · subst hkd
                          rw [if_pos rfl, if_pos (by omega)]
                          have e1 := HUP.out
                          have e2 := HLK.out
                          rw [← e1, ← e2]
                        · rw [if_neg hkd]
                          show (if k < d then N k else dv0) = _
                          by_cases hlt : k < d
                          · rw [if_pos hlt, if_pos (by omega)]
                          · rw [if_neg hlt, if_neg (by omega)]
                      · rw [upd_other _ _ (by omega)]; exact (HNI.out k (by omega)).1
                      · rw [upd_other _ _ (by omega)]; exact (HNI.out k (by omega)).2
                    case measure => simp [intOf]; omega
    · obtain rfl : d = 16 := by omega
      go_wp2
      go_ret
      refine ⟨by rw [HBB.out]; rfl, HE.out, vr', va', ?_⟩
      have h := HZ.out
      rw [HBB.out]
      exact na_ext h (fun k hk => by unfold fill; rw [if_pos hk])
end Go.Proofs.Qxb6500778a
