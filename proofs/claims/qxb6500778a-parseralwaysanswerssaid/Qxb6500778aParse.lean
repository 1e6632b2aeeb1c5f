import Derived.Test.Qxb6500778aChange
import Derived.Test.Qxb6500778aSmall
import Derived.Deep.RegionLaw
namespace Go.Proofs.Qxb6500778a
open Go.RowKit

structure Ch where
  kd : Int
  dv : Int
  hp : Int
  pr : Int
  ln : Int
  ix : Int
  cl : Int
  pm : Bool
  up : Bool
def Ch.vals (x : Ch) : List Value := [.int .i64 x.kd, .int .i64 x.dv, .int .i64 x.hp, .int .i64 x.pr, .int .i64 x.ln, .int .i64 x.ix, .int .i64 x.cl, .bool x.pm, .bool x.up]
def Ch.Good (x : Ch) : Prop := GoodC x.kd x.dv x.hp x.pr x.ln x.ix x.cl x.pm x.up
def flat : List Ch → List Value
  | [] => []
  | x :: r => x.vals ++ flat r
theorem flat_snoc : ∀ (C : List Ch) (x : Ch), flat (C ++ [x]) = flat C ++ x.vals
  | [], x => by simp [flat]
  | y :: C, x => by simp [flat, flat_snoc C x]
theorem flat_at : ∀ (C : List Ch) (i : Nat) (x : Ch), C[i]? = some x → ∀ j, j < 9 → (flat C)[i * 9 + j]? = x.vals[j]?
  | [], i, x, h, _, _ => by simp at h
  | y :: C, 0, x, h, j, hj => by
    simp at h
    subst h
    rw [flat, Nat.zero_mul, Nat.zero_add, List.getElem?_append_left (by simp [Ch.vals]; omega)]
  | y :: C, i + 1, x, h, j, hj => by
    rw [flat, List.getElem?_append_right (by simp [Ch.vals]; omega)]
    have : (i + 1) * 9 + j - y.vals.length = i * 9 + j := by simp [Ch.vals]; omega
    rw [this]
    exact flat_at C i x (by simpa using h) j hj
theorem step_append_own {P : Program} {w : World} {ops : Array Oper} {o : Oper} {a : Act} {K : Act → World → Prop} {Q : Exit → Act → World → Prop} {E : Prop} (hg : o.guard = none) (s x : Operand) (t : TypeId)
    (ho : o.op = .call { callee := .builtin .append, args := #[s, x], argTypes := #[t, t] })
    (base : Nat) (e : TypeId) (i : TypeInfo) (z : Value) (size bytes : Nat) (ht : P.underlying t = some (.slice e)) (hi : P.info? e = some i) (hz : i.zero = some z)
    (hsize : i.size = size) (hby : i.bytes = bytes) (hzs : z.cells.size = size) (hsz : 0 < size)
    (v : Value) (n : Nat) (xs : List Value) (hs : a.eval s = v) (hown : w.ownsRow base e size v n xs)
    (ad : Addr) (m c : Nat) (news : List Value) (hx : a.eval x = .slice (some ad) m c) (hl : news.length = m * size) (hnews : ∀ j u, news[j]? = some u → w.cell? (ad.add j) = some u) (h1 : ∀ u ∈ news, u.oneCell' = true)
    (h63 : n + m ≤ maxLen) (hbytes : (n + m) * bytes ≤ 140737488355328) (hbase : base ≤ w.heap.size)
    (h : ∀ v' w', w'.ownsRow base e size v' (n + m) (xs ++ news) → w.grownBy w' v.ownBlock → (v' = .slice none 0 0 ↔ v = .slice none 0 0 ∧ m = 0) → K (a.put o.dst v') w') :
    if Region.wanted o (yielded ops a.tmps) = true then Oper.wp P o a w K Q else E := by
  rw [if_pos (by simp [Region.wanted, hg])]
  exact wp_append_own w s x t ho base e i z size bytes ht hi hz hsize hby hzs hsz v n xs hs hown ad m c news hx hl hnews h1 h63 hbytes hbase h
theorem step_call {P : Program} {w : World} {ops : Array Oper} {o : Oper} {a : Act} {K : Act → World → Prop} {Q : Exit → Act → World → Prop} {E : Prop} (hg : o.guard = none)
    (f : FuncId) (args : Array Value) (hrun : (execOp a.eval o).run P w = .ok (.enter f args) w) {Post : Ending → World → Prop} (hc : Calls P f args w Post)
    (h : ∀ e w', Post e w' → ∃ v, e = .returned v ∧ K (a.put o.dst v) w') :
    if Region.wanted o (yielded ops a.tmps) = true then Oper.wp P o a w K Q else E := by
  rw [if_pos (by simp [Region.wanted, hg])]
  unfold Oper.wp
  rw [hrun, Oper.upon_enter]
  refine hc.mono fun e w' hh => ?_
  obtain ⟨v, rfl, hK⟩ := h e w' hh
  exact hK
theorem Try.inf45 : (Try.prog.info? 45).map (fun i => (i.zero, i.size, i.bytes)) = some (some (.agg #[.int .i64 0, .int .i64 0, .int .i64 0, .int .i64 0, .int .i64 0, .int .i64 0, .int .i64 0, .bool false, .bool false]), 9, 64) := by kernel_rfl
/-- What Parse has at hand: the result r, the parser p, the batch b with the changes read so far. -/
structure BX (w0 w : World) (r p b : Nat) (a : Option Addr) (n c : Nat) (er id : Int) (v : Value) (C : List Ch) : Prop where
  pi : PI w p a n c er
  b0 : w.cell? ⟨b, 0, none⟩ = some (.int .i64 id)
  b1 : w.cell? ⟨b, 1, none⟩ = some v
  bf : ∀ j, w.frozen? ⟨b, j, none⟩ = false
  r0 : w.cell? ⟨r, 0, none⟩ = some (.int .i64 0)
  r1 : w.cell? ⟨r, 1, none⟩ = some (.slice none 0 0)
  rf : ∀ j, w.frozen? ⟨r, j, none⟩ = false
  own : w.ownsRow (b + 1) 45 9 v C.length (flat C)
  bel : Below w0.heap.size w0 w
  hr : w0.heap.size ≤ r
  rp : r < p
  pb : p < b
theorem Ex.grown {S : Nat → Prop} {w w' : World} (e : Ex S w w') {row : Option Nat} (h : ∀ k, S k → some k = row) : w.grownBy w' row :=
  ⟨e.os, e.tape, e.output, e.size, fun k hk hn => e.block k hk fun hs => hn (h k hs)⟩
theorem own_ex {S : Nat → Prop} {w w' : World} {B e s n k : Nat} {v : Value} {xs : List Value} (h : w.ownsRow B e s v n xs) (ex : Ex S w w') (hS : ∀ j, S j → j = k) (hk : k < B) : w'.ownsRow B e s v n xs := by
  refine h.kept (ex.grown (row := some k) fun j hj => by rw [hS j hj]) ?_
  cases hv : v.ownBlock with
  | none => exact Or.inl rfl
  | some j =>
    right
    have := (h.lt j hv).1
    intro e
    injection e with e
    omega
theorem BX.step {w0 w : World} {r p b : Nat} {a : Option Addr} {n c : Nat} {er id : Int} {v : Value} {C : List Ch} {w' : World} {er' : Int} (h : BX w0 w r p b a n c er id v C) (hpi : PI w' p a n c er') (e : Ex (Is p) w w') : BX w0 w' r p b a n c er' id v C := by
  have hr := h.hr
  have rp := h.rp
  have pb := h.pb
  have nb : ¬ Is p b := fun (x : b = p) => by omega
  have nr : ¬ Is p r := fun (x : r = p) => by omega
  exact ⟨hpi, e.cell nb h.b0, e.cell nb h.b1, fun j => (e.frozen nb (World.block_lt_of_cell? _ _ h.b0)).trans (h.bf j), e.cell nr h.r0, e.cell nr h.r1, fun j => (e.frozen nr (World.block_lt_of_cell? _ _ h.r0)).trans (h.rf j), own_ex h.own e (fun j hj => hj) (by omega), h.bel.trans (e.below h.bel.size (fun k hk (x : k = p) => by omega)), hr, rp, pb⟩
theorem BX.drewN {w0 w : World} {r p b : Nat} {a : Option Addr} {n c : Nat} {er id : Int} {v : Value} {C : List Ch} (h : BX w0 w r p b a n c er id v C) (m : Nat) : BX w0 (w.drewN m) r p b a n c er id v C :=
  h.step (h.pi.other ((Ex.refl (fun _ => False) w).drewN m) (fun _ _ h => h)) ((Ex.refl _ w).drewN m)
theorem BX.drew {w0 w : World} {r p b : Nat} {a : Option Addr} {n c : Nat} {er id : Int} {v : Value} {C : List Ch} (h : BX w0 w r p b a n c er id v C) : BX w0 w.drew r p b a n c er id v C := h.drewN 1
theorem BX.putId {w0 w : World} {r p b : Nat} {a : Option Addr} {n c : Nat} {er id : Int} {v : Value} {C : List Ch} {id' : Int} (h : BX w0 w r p b a n c er id v C) : BX w0 (w.setCell ⟨b, 0, none⟩ (.int .i64 id')) r p b a n c er id' v C := by
  have hr := h.hr
  have rp := h.rp
  have pb := h.pb
  have e : Ex (Is b) w (w.setCell ⟨b, 0, none⟩ (.int .i64 id')) := (Ex.refl (Is b) w).set (p := b) rfl _
  have nr : ¬ Is b r := fun (x : r = b) => by omega
  exact ⟨h.pi.other e (fun k hk (x : k = b) => by omega), World.cell?_setCell_same _ _ _ h.b0, by rw [World.cell?_setCell_other _ _ _ _ (by simp)]; exact h.b1, fun j => by simpa [go_sem] using h.bf j, e.cell nr h.r0, e.cell nr h.r1, fun j => (e.frozen nr (World.block_lt_of_cell? _ _ h.r0)).trans (h.rf j), own_ex h.own e (fun j hj => hj) (by omega), h.bel.setCell (by simp; omega) _, hr, rp, pb⟩
theorem BX.app {w0 w : World} {r p b : Nat} {a : Option Addr} {n c : Nat} {er id : Int} {v : Value} {C : List Ch} {w2 : World} {v' : Value} {x : Ch} {o : Obj} (h : BX w0 w r p b a n c er id v C) (hg : (w.alloc o).grownBy w2 v.ownBlock) (hown : w2.ownsRow (b + 1) 45 9 v' (C.length + 1) (flat C ++ x.vals)) : BX w0 (w2.setCell ⟨b, 1, none⟩ v') r p b a n c er id v' (C ++ [x]) := by
  have hr := h.hr
  have rp := h.rp
  have pb := h.pb
  have hb := World.block_lt_of_cell? _ _ h.b0
  have e1 : Ex (fun k => b + 1 ≤ k) w w2 := ⟨hg.os, hg.tape, hg.output, Nat.le_trans (by simp) hg.size, fun k hk hn => (hg.block k (by simp; omega) (fun x => hn (h.own.lt k x.symm).1)).trans (Below.heap_alloc w o k hk)⟩
  have nb : ¬ (b + 1 ≤ b) := by omega
  have nr : ¬ (b + 1 ≤ r) := by omega
  have e2 : Ex (Is b) w2 (w2.setCell ⟨b, 1, none⟩ v') := (Ex.refl (Is b) w2).set (p := b) rfl _
  have nr2 : ¬ Is b r := fun (x : r = b) => by omega
  have hb1 := e1.cell nb h.b1
  refine ⟨(h.pi.other e1 (fun k hk (x : b + 1 ≤ k) => by omega)).other e2 (fun k hk (x : k = b) => by omega), ?_, World.cell?_setCell_same _ _ _ hb1, fun j => ?_, e2.cell nr2 (e1.cell nr h.r0), e2.cell nr2 (e1.cell nr h.r1), fun j => ?_, ?_, ?_, hr, rp, pb⟩
  · rw [World.cell?_setCell_other _ _ _ _ (by simp)]; exact e1.cell nb h.b0
  · have := (e1.frozen (j := j) nb hb).trans (h.bf j)
    simpa [go_sem] using this
  · have hrl := World.block_lt_of_cell? _ _ h.r0
    exact ((e2.frozen nr2 (Nat.lt_of_lt_of_le hrl e1.size)).trans (e1.frozen nr hrl)).trans (h.rf j)
  · rw [flat_snoc, show (C ++ [x]).length = C.length + 1 by simp]
    exact own_ex hown e2 (fun j hj => hj) (by omega)
  · exact (h.bel.trans (e1.below h.bel.size (fun k hk (x : b + 1 ≤ k) => by omega))).setCell (by simp; omega) _
theorem BX.keep {w0 w : World} {r p b : Nat} {a : Option Addr} {n c : Nat} {er id : Int} {v : Value} {C : List Ch} {w2 : World} {o : Obj} (h : BX w0 w r p b a n c er id v C) (hg : (w.alloc o).grownBy w2 v.ownBlock) : w2.cell? ⟨b, 1, none⟩ = some v ∧ ∀ j, w2.frozen? ⟨b, j, none⟩ = false := by
  have hb := World.block_lt_of_cell? _ _ h.b0
  have e1 : Ex (fun k => b + 1 ≤ k) w w2 := ⟨hg.os, hg.tape, hg.output, Nat.le_trans (by simp) hg.size, fun k hk hn => (hg.block k (by simp; omega) (fun x => hn (h.own.lt k x.symm).1)).trans (Below.heap_alloc w o k hk)⟩
  have nb : ¬ (b + 1 ≤ b) := by omega
  exact ⟨e1.cell nb h.b1, fun j => (e1.frozen nb hb).trans (h.bf j)⟩
theorem own_chs {w : World} {B : Nat} {v : Value} {C : List Ch} (h : w.ownsRow B 45 9 v C.length (flat C)) (hg : ∀ x, x ∈ C → x.Good) : ∃ sa sc, v = .slice sa C.length sc ∧ ChsAt w sa C.length := by
  have hc := @World.ownsRow.cells _ _ _ _ _ _ _ h
  obtain ⟨h1, ⟨e1, e2⟩ | ⟨g, cap, cur, e1, _⟩⟩ := h
  · exact ⟨none, 0, by rw [e1, e2], fun i hi => by omega⟩
  · refine ⟨some ⟨g, 0, none⟩, cap, e1, fun i hi => ?_⟩
    obtain ⟨x, hx⟩ : ∃ x, C[i]? = some x := ⟨_, List.getElem?_eq_getElem hi⟩
    have cell : ∀ j u, j < 9 → x.vals[j]? = some u → w.cell? ⟨g, 0 + i * 9 + j, none⟩ = some u := by
      intro j u hj hu
      have := hc (g := g) (by rw [e1]; rfl) (i * 9 + j) u (by rw [flat_at C i x hx j hj]; exact hu)
      rwa [Addr.add_mid, ← Nat.add_assoc] at this
    refine ⟨g, 0, x.kd, x.dv, x.hp, x.pr, x.ln, x.ix, x.cl, x.pm, x.up, rfl, ⟨?_, ?_, ?_, ?_, ?_, ?_, ?_, ?_, ?_⟩, hg x (List.mem_of_getElem? hx)⟩
    · exact cell 0 _ (by omega) rfl
    · exact cell 1 _ (by omega) rfl
    · exact cell 2 _ (by omega) rfl
    · exact cell 3 _ (by omega) rfl
    · exact cell 4 _ (by omega) rfl
    · exact cell 5 _ (by omega) rfl
    · exact cell 6 _ (by omega) rfl
    · exact cell 7 _ (by omega) rfl
    · exact cell 8 _ (by omega) rfl
def chLeft (b : Nat) (w : World) : Nat := match w.cell? ⟨b, 1, none⟩ with
  | some (.slice _ l _) => 129 - l
  | _ => 0
theorem chLeft_of {w : World} {b l : Nat} {sa : Option Addr} {sc : Nat} (h : w.cell? ⟨b, 1, none⟩ = some (.slice sa l sc)) : chLeft b w = 129 - l := by
  unfold chLeft; rw [h]
theorem own_len {w : World} {B e s n : Nat} {v : Value} {xs : List Value} (h : w.ownsRow B e s v n xs) : ∃ sa sc, v = .slice sa n sc := by
  obtain ⟨_, ⟨e1, e2⟩ | ⟨g, cap, cur, e1, _⟩⟩ := h
  · exact ⟨none, 0, by rw [e1, e2]⟩
  · exact ⟨_, _, e1⟩
def ParsePost (w : World) (n : Nat) (e : Ending) (w' : World) : Prop :=
  ∃ (id : Int) (v : Value) (er at_ : Int), e = .returned (.tuple #[.agg #[.int .i64 id, v], .int .i64 er, .int .i64 at_]) ∧ Below w.heap.size w w' ∧
    (er = 0 → (0 ≤ id ∧ id ≤ 999999) ∧ ∃ sa sl sc, v = .slice sa sl sc ∧ sl ≤ 128 ∧ ChsAt w' sa sl) ∧ (er ≠ 0 → id = 0 ∧ v = .slice none 0 0 ∧ 0 ≤ at_ ∧ at_ ≤ n)
set_option maxRecDepth 100000 in
set_option maxHeartbeats 8000000 in
theorem parse_any (w : World) (a : Option Addr) (n c : Nat) (hn : n ≤ 9223372036854775807) (hnc : n ≤ c) (hby : BytesAt w a n) :
    Calls Try.prog 13 #[.slice a n c] w (ParsePost w n) := by
  obtain ⟨i0, hi, hz0, hz1, hz2⟩ := info_parts Try.inf45
  obtain ⟨W, hW⟩ : ∃ W, W = ((w.alloc (.cells #[.int .i64 0, .slice none 0 0] 52)).alloc (.cells #[.slice a n c, .int .i64 0, .int .i64 0, .int .i64 0, .string ⟨#[]⟩, .int .i64 0, .int .i64 0, .int .i64 0] 89)).alloc (.cells #[.int .i64 0, .slice none 0 0] 52) := ⟨_, rfl⟩
  have hbel : Below w.heap.size w W := by rw [hW]; exact (((Below.refl _ _).alloc (Nat.le_refl _) _).alloc (by simp) _).alloc (by simp; omega) _
  have HX : Hid (BX w W w.heap.size (w.heap.size + 1) (w.heap.size + 1 + 1) a n c 0 0 (.slice none 0 0) []) := by
    refine ⟨⟨0, 0, 0, ⟨#[]⟩, 0, 0, ⟨?_, ?_, ?_, ?_, ?_, ?_, ?_, ?_, ?_, hby.below hbel, Nat.zero_le _, hnc, hn, ?_⟩, by omega, by omega, by omega⟩, ?_, ?_, ?_, ?_, ?_, ?_, World.ownsRow_nil _ _ _ _, hbel, Nat.le_refl _, by omega, by omega⟩
    case refine_10 =>
      intro h0 b off e
      obtain ⟨b', off', z, e', hc, _⟩ := hby 0 h0
      rw [e] at e'
      injection e' with e'
      injection e' with e1 e2
      subst e1 e2
      have := World.block_lt_of_cell? _ _ hc
      simp at this
      omega
    all_goals (rw [hW]; first | simp [go_sem] | (intro j; simp [go_sem]))
  clear hby hbel
  go_enter Try.func13, Try.ntmps13
  go_upto_region 3 with fail
  rw [← hW]
  clear hW
  generalize w.heap.size + 1 + 1 = b at *
  generalize w.heap.size + 1 = p at *
  generalize hr : w.heap.size = r at *
  go_wp2_with fail
  refine (advance_any _ p a n c 0 HX.out.pi).mono ?_
  rintro e w1 ⟨rfl, e1p, e1e⟩
  replace HX := hide (HX.out.step e1p e1e)
  clear e1p e1e
  go_wp2_with fail
  refine (word_any _ p a n c 0 _ HX.out.pi).mono ?_
  rintro e w2 ⟨rfl, ⟨e2, e2h, e2p⟩, e2e⟩
  replace HX := hide (HX.out.step e2p e2e)
  clear e2p e2e
  go_wp2_with fail
  refine (bounded_any _ p a n c e2 2 999999 (by decide) HX.out.pi).mono ?_
  rintro e w3 ⟨⟨id, rfl, id0, id1⟩, ⟨e3, e3h, e3p⟩, e3e⟩
  replace HX := hide (HX.out.step e3p e3e)
  clear e3p e3e
  have b0 := HX.out.b0
  have bf := HX.out.bf
  go_upto_region 6 with fail
  replace HX := hide (HX.out.putId (id' := id))
  clear b0 bf
  generalize w3.setCell ⟨b, 0, none⟩ (.int .i64 id) = w4 at *
  go_wp2_with fail
  refine (punct_any _ p a n c e3 5 HX.out.pi).mono ?_
  rintro e w5 ⟨rfl, ⟨e4, e4h, e4p⟩, e4e⟩
  replace HX := hide (HX.out.step e4p e4e)
  clear e4p e4e
  clear e2h e3h e4h
  go_upto_block 0 with fail
  go_cut [15] (fun _ wx => ∃ er v C, BX w wx r p b a n c er id v C ∧ C.length ≤ 128 ∧ (er = 0 → ∀ x, x ∈ C → x.Good))
  case first =>
    go_wp2_with fail
    go_loopw [15] (fun _ wx => ∃ er v C, BX w wx r p b a n c er id v C ∧ C.length ≤ 128 ∧ (er = 0 → ∀ x, x ∈ C → x.Good)) (fun _ wx => chLeft b wx)
    case atStart => exact ⟨_, _, [], HX.out, by simp, fun _ x hx => by simp at hx⟩
    case round =>
      clear HX
      obtain ⟨er, v, C, hbx, hC, hgood⟩ := hrel
      have HX := hide hbx
      have HGd := hide hgood
      obtain ⟨sa, sc, rfl⟩ := own_len hbx.own
      obtain ⟨pos, k, tp, s, v0, at_, hps, ht, hv, ha⟩ := hbx.pi
      have c6 := hps.c6
      have c2 := hps.c2
      have c3 := hps.c3
      have b1 := hbx.b1
      have bf := hbx.bf
      have HL := hide (chLeft_of b1)
      clear hbx hgood hps hv ha
      by_cases hz : er = 0
      · subst hz
        by_cases hk : k = 6
        · subst hk
          go_wp2
          go_meet
          case rel => exact ⟨_, _, C, HX.out, hC, fun _ => HGd.out (by first | rfl | trivial)⟩
        · have hkb : (k != 6) = true := by simp [hk]
          by_cases hfull : C.length = 128
          · have hfb : ((C.length : Int) == 128) = true := by simp; omega
            go_wp2_with fail
            refine (fail_any _ p a n c 0 4 tp (by decide) ht HX.out.pi).mono ?_
            rintro e w6 ⟨rfl, ⟨e5, he5, e5p⟩, e5e⟩
            replace HX := hide (HX.out.step e5p e5e)
            clear e5p e5e c6 c2 c3 b1 bf
            go_wp2
            go_meet
            case rel => exact ⟨e5, _, C, HX.out, hC, fun h => absurd h he5⟩
          · have hfb : ((C.length : Int) == 128) = false := by rw [beq_eq_false_iff_ne]; omega
            go_upto_region 10 with fail
            have hbl := World.block_lt_of_cell? _ _ b1
            go_region_law (first
              | (refine step_call rfl 34 #[.pointer (some ⟨p, 0, none⟩)] (by simp [go_sem]) (change_any _ p a n c 0 HX.out.drew.pi) ?_; rintro e w6 ⟨er', kd, dv, hp, pr, ln, ix, cl, pm, up, rfl, hch, hpi, hex⟩; refine ⟨_, rfl, ?_⟩; have HX6 := hide (HX.out.drew.step hpi hex); have HCH := hide hch; have b16 := HX6.out.b1; have bf6 := HX6.out.bf; clear hch hpi hex; have hsz6 : b + 1 ≤ w6.heap.size := World.block_lt_of_cell? _ _ b16; have b16a : ∀ ob, (w6.alloc ob).cell? ⟨b, 1, none⟩ = some (.slice sa C.length sc) := (fun ob => cellKeep ((Below.refl _ _).alloc (Nat.le_refl _) _) b16))
              | (refine step_append_own rfl (.tmp 33) (.tmp 35) 35 rfl (b + 1) 45 i0 _ 9 64 Try.underlying35 hi hz0 hz1 hz2 rfl (by decide) (.slice sa C.length sc) C.length (flat C) rfl (HX6.out.own.alloc _) ⟨w6.heap.size, 0, none⟩ 1 1 (Ch.vals ⟨kd, dv, hp, pr, ln, ix, cl, pm, up⟩) rfl rfl (fun j u hj => by rw [Addr.add_mid, Nat.zero_add]; simpa [go_sem, Ch.vals] using hj) (fun u hu => by simp [Ch.vals] at hu; rcases hu with h | h | h | h | h | h | h | h | h <;> subst h <;> rfl) (by unfold maxLen; omega) (by omega) (by simp; omega) ?_; intro v' w7 hown hgrow _; obtain ⟨sa7, sc7, rfl⟩ := own_len hown; have HN := hide (HX6.out.app hgrow hown); obtain ⟨b17, bf7⟩ := HX6.out.keep hgrow; clear hown hgrow))
            all_goals
              clear b1 bf c6 c2 c3 b16 bf6 b16a b17 bf7
              go_wp2
              go_roundw
              case rel =>
                refine ⟨er', _, _, HN.out, by simp; omega, fun h x hx => ?_⟩
                rcases List.mem_append.1 hx with hx | hx
                · exact HGd.out (by first | rfl | trivial) x hx
                · rw [List.mem_singleton.1 hx]; exact (HCH.out h).2
              case measure =>
                show chLeft b _ < chLeft b wr
                rw [HL.out, chLeft_of HN.out.b1]
                omega
      · have hzb : (er == 0) = false := by simp [hz]
        go_wp2
        go_meet
        case rel => exact ⟨_, _, C, HX.out, hC, HGd.out⟩
  obtain ⟨er, v, C, hbx, hC, hgood⟩ := hcut
  clear HX
  have HX := hide hbx
  have HGd := hide hgood
  clear hbx hgood
  go_wp2_with fail
  refine (punct_any _ p a n c er 6 HX.out.pi).mono ?_
  rintro e w6 ⟨rfl, ⟨e5, e5h, e5p⟩, e5e⟩
  replace HX := hide (HX.out.step e5p e5e)
  clear e5p e5e
  go_wp2_with fail
  refine (punct_any _ p a n c e5 0 HX.out.pi).mono ?_
  rintro e w7 ⟨rfl, ⟨e6, e6h, e6p⟩, e6e⟩
  replace HX := hide (HX.out.step e6p e6e)
  clear e6p e6e
  obtain ⟨sa, sc, rfl⟩ := own_len HX.out.own
  obtain ⟨pos, k, tp, s, v0, at_, hps, ht, hv, ha⟩ := HX.out.pi
  have c6 := hps.c6
  have c7 := hps.c7
  have b0 := HX.out.b0
  have b1 := HX.out.b1
  have r0 := HX.out.r0
  have r1 := HX.out.r1
  have rf := HX.out.rf
  have hrr := HX.out.hr
  clear hps ht hv
  by_cases hz : e6 = 0
  · subst hz
    have HG2 := hide (HGd.out (e5h (e6h (by first | rfl | trivial))))
    have hrp := HX.out.rp
    have hpb := HX.out.pb
    clear ha
    go_wp2
    refine bodyPost_ret (v := .tuple #[.agg #[.int .i64 id, .slice sa C.length sc], .int .i64 0, .int .i64 0]) (by simp [results, Try.results13, go_sem, r0, r1]) rfl ⟨id, _, 0, 0, rfl, (HX.out.bel.setCell (by simp; omega) _).setCell (by simp; omega) _, fun _ => ⟨⟨id0, id1⟩, ?_⟩, fun h => absurd rfl h⟩
    obtain ⟨sa', sc', hve, hch⟩ := own_chs (own_ex HX.out.own (((Ex.refl (Is r) w7).set (p := r) (j := 0) rfl _).set (p := r) (j := 1) rfl _) (fun j hj => hj) (by omega)) HG2.out
    exact ⟨sa', C.length, sc', hve, hC, hch⟩
  · have hzb : (e6 != 0) = true := by simp [hz]
    go_upto_region 14 with fail
    go_region
    go_wp2
    refine bodyPost_ret (v := .tuple #[.agg #[.int .i64 0, .slice none 0 0], .int .i64 e6, .int .i64 at_]) (by simp [results, Try.results13, go_sem, r0, r1]) rfl ⟨0, _, e6, at_, rfl, ?_, fun h => absurd h hz, fun _ => ⟨rfl, rfl, ha.1, ha.2⟩⟩
    exact ((HX.out.bel.setCell (by simp; omega) _).setCell (by simp; omega) _).drew
end Go.Proofs.Qxb6500778a
