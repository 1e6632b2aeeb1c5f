import Derived.Test.Qxb6500778aMA
namespace Go.Proofs.Qxb6500778a
open Go.RowKit

/-- The words that the model's parser reads. -/
structure WR (w : World) (g vc n : Nat) (L : List Wd) : Prop where
  len : n = L.length
  own : w.ownsRow 0 107 2 (.slice (some ⟨g, 0, none⟩) L.length vc) L.length (flatW L)
  byt : ∀ x ∈ L, Byt x.t ∧ x.t.length ≤ 65536
  sm : n ≤ 1000000
theorem WR.keep {w w' : World} {g vc n : Nat} {L : List Wd} {S : Nat → Prop} (h : WR w g vc n L) (e : Ex S w w') (hg : ¬ S g) : WR w' g vc n L :=
  ⟨h.len, own_kept h.own e (fun k hk z => hg (by injection hk with hk; have hgk : g = k := hk; rw [hgk]; exact z)), h.byt, h.sm⟩
theorem WR.lt {w : World} {g vc n : Nat} {L : List Wd} (h : WR w g vc n L) : g < w.heap.size := (h.own.lt g rfl).2
theorem WR.ws {w : World} {g vc n q : Nat} {L : List Wd} {c : Chg} (h : WR w g vc n L) (hc : CS w q c) (hq : g ≠ q) : WS w g vc n q L c := ⟨h.len, h.own, hc, hq, h.byt, h.sm⟩
theorem shF_ok {k : Int} (hk : 0 ≤ k ∧ k < 6) : (shF k).length ≤ 9 ∧ (∀ f ∈ shF k, f ≠ []) ∧ (∀ f ∈ shF k, Byt f) ∧ (strL (shapeB k)).length ≤ 1000 := by
  have key : ∀ m : Nat, m < 6 → (shF (m : Int)).length ≤ 9 ∧ (∀ f ∈ shF (m : Int), f ≠ []) ∧ (∀ f ∈ shF (m : Int), ∀ c ∈ f, 0 ≤ c ∧ c < 256) ∧ (strL (shapeB (m : Int))).length ≤ 1000 := by decide +kernel
  obtain ⟨m, rfl⟩ : ∃ m : Nat, k = m := ⟨k.toNat, by omega⟩
  exact key m (by omega)
theorem three_new (w : World) (a b c : List Value) (t u v : Nat) : (∀ j x, a[j]? = some x → (((w.alloc (.cells a.toArray t)).alloc (.cells b.toArray u)).alloc (.cells c.toArray v)).cell? ⟨w.heap.size, j, none⟩ = some x) ∧ (∀ j x, b[j]? = some x → (((w.alloc (.cells a.toArray t)).alloc (.cells b.toArray u)).alloc (.cells c.toArray v)).cell? ⟨w.heap.size + 1, j, none⟩ = some x) ∧ (∀ j x, c[j]? = some x → (((w.alloc (.cells a.toArray t)).alloc (.cells b.toArray u)).alloc (.cells c.toArray v)).cell? ⟨w.heap.size + 2, j, none⟩ = some x) ∧ Ex (fun _ => False) w (((w.alloc (.cells a.toArray t)).alloc (.cells b.toArray u)).alloc (.cells c.toArray v)) := by
  obtain ⟨h1, h2, _, h4⟩ := two_new w a b t u
  refine ⟨fun j x h => ((Ex.refl (fun _ => False) _).alloc _).cell (fun e => e) (h1 j x h), fun j x h => ((Ex.refl (fun _ => False) _).alloc _).cell (fun e => e) (h2 j x h), fun j x h => ?_, h4.alloc _⟩
  have := new_cells ((w.alloc (.cells a.toArray t)).alloc (.cells b.toArray u)) c v j x h
  rw [Addr.add_mid, Nat.zero_add, show ((w.alloc (.cells a.toArray t)).alloc (.cells b.toArray u)).heap.size = w.heap.size + 2 by simp] at this
  exact this
theorem drop_consG {α : Type} {l : List α} {i : Nat} {x : α} (h : l[i]? = some x) : l.drop i = x :: l.drop (i + 1) := by
  obtain ⟨hi, e⟩ := List.getElem?_eq_some_iff.1 h
  rw [List.drop_eq_getElem_cons hi, e]
theorem strV_cell {w : World} {B : Nat} {v : Value} {F : List (List Int)} (h : w.ownsRow B 9 1 v F.length (F.map strV)) {g c : Nat} (hv : v = .slice (some ⟨g, 0, none⟩) F.length c) {i : Nat} {x : List Int} (hi : F[i]? = some x) : w.cell? ⟨g, i, none⟩ = some (.string (strOfNums x)) := by
  subst hv
  have := h.cells (g := g) rfl i (strV x) (by rw [List.getElem?_map, hi]; rfl)
  rwa [Addr.add_mid, Nat.zero_add] at this
theorem there_keep {S : Nat → Prop} {w w' : World} {b o n : Nat} (h : w.there b o n) (e : Ex S w w') (hb : ¬ S b) : w'.there b o n := fun j hj => by
  obtain ⟨h1, h2⟩ := h j hj
  obtain ⟨v, hv⟩ := Option.isSome_iff_exists.1 h1
  exact ⟨by rw [e.cell hb hv]; rfl, (e.frozen hb (World.block_lt_of_cell? _ _ hv)).trans h2⟩
theorem setC_cell {w : World} {b n : Nat} (h : w.there b 0 n) (vs : List Value) (hn : vs.length = n) {j : Nat} {u : Value} (hu : vs[j]? = some u) : (w.setCells b 0 vs).cell? ⟨b, j, none⟩ = some u := by
  have hr := World.rangeAt_setCells_same w b 0 vs (by rw [hn]; exact h)
  have := hr j u hu
  rwa [Nat.zero_add] at this
theorem exC {w : World} {b : Nat} (vs : List Value) : Ex (fun q => q = b) w (w.setCells b 0 vs) := Ex.sets (S := fun q => q = b) (p := b) rfl vs 0 w (Ex.refl _ _)
theorem wrap_add (a b j : Nat) (h : a + b ≤ 2000000) (hj : a + b = j) : wrap64 ((a : Int) + (b : Int)) = (j : Int) := by subst hj; unfold wrap64; omega
theorem mtP_nil (L : List Wd) (j : Nat) (c : Chg) (r tk : Nat) : mtP L [] j c r tk = (c, tk, r, 0, 0) := rfl
theorem mtP_cons (L : List Wd) (f : List Int) (fs : List (List Int)) (j : Nat) (c : Chg) (r tk : Nat) : mtP L (f :: fs) j c r tk = if (slP f L j c).2.2.1 = 0 then mtP L fs (j + (slP f L j c).2.1) (slP f L j c).1 (r + 1) (tk + (slP f L j c).2.1) else ((slP f L j c).1, tk, r, (slP f L j c).2.2.1, (slP f L j c).2.2.2) := rfl
def TwoOK (X : World) (r6 r9 : Nat) (c : Chg) (e a : Int) : Prop := (∀ j u, c.vals[j]? = some u → X.cell? ⟨r6, j, none⟩ = some u) ∧ X.cell? ⟨r9, 0, none⟩ = some (.int .i64 e) ∧ X.cell? ⟨r9, 1, none⟩ = some (.int .i64 a)
theorem two_a {V : World} {r6 r9 : Nat} (h6 : V.there r6 0 9) (h9 : V.there r9 0 2) (hn : r6 ≠ r9) (c : Chg) (e a : Int) : TwoOK ((V.setCells r6 0 c.vals).setCells r9 0 [.int .i64 e, .int .i64 a]) r6 r9 c e a :=
  have h9' := there_keep h9 (exC (b := r6) c.vals) (fun z => hn z.symm)
  ⟨fun _ _ hu => (exC _).cell (q := r6) hn (setC_cell h6 c.vals rfl hu), setC_cell h9' _ rfl rfl, setC_cell h9' _ rfl rfl⟩
theorem two_b {V : World} {r6 r9 : Nat} (h6 : V.there r6 0 9) (h9 : V.there r9 0 2) (hn : r6 ≠ r9) (c : Chg) (e a : Int) : TwoOK ((V.setCells r9 0 [.int .i64 e, .int .i64 a]).setCells r6 0 c.vals) r6 r9 c e a :=
  have h6' := there_keep h6 (exC (b := r9) [.int .i64 e, .int .i64 a]) hn
  ⟨fun _ _ hu => setC_cell h6' c.vals rfl hu, (exC _).cell (q := r9) (fun z => hn z.symm) (setC_cell h9 _ rfl rfl), (exC _).cell (q := r9) (fun z => hn z.symm) (setC_cell h9 _ rfl rfl)⟩
theorem step_storeM {P : Program} {w : World} {ops : Array Oper} {op : Oper} {a : Act} {K : Act → World → Prop} {Q : Exit → Act → World → Prop} {E : Prop} (hg : op.guard = none) (ty : TypeId) (x y : Operand) (ho : op.op = .store ty x y)
    (b o : Nat) (cs : List Value) (hx : a.eval x = .pointer (some ⟨b, o, none⟩)) (hy : a.eval y = .agg cs.toArray) (ht : w.there b o cs.length) (hi : (P.info? ty).map (·.size) = some cs.length) (h1 : ∀ u ∈ cs, u.oneCell' = true)
    (h : K (a.put op.dst undef) (w.setCells b o cs)) : if Region.wanted op (yielded ops a.tmps) = true then Oper.wp P op a w K Q else E := by
  rw [if_pos (by simp [Region.wanted, hg])]
  exact wp_store_mid ty x y ho b o cs.toArray hx hy (by simpa using ht) (by simpa using hi) (by simpa using h1) (by simpa using h)
theorem Try.sz45 : (Try.prog.info? 45).map (·.size) = some 9 := by kernel_rfl
theorem Try.sz109 : (Try.prog.info? 109).map (·.size) = some 2 := by kernel_rfl
theorem c1_one (c : Chg) : ∀ u ∈ c.vals, u.oneCell' = true := fun u hu => by
  simp only [Chg.vals, List.mem_cons, List.not_mem_nil, or_false] at hu
  rcases hu with rfl | rfl | rfl | rfl | rfl | rfl | rfl | rfl | rfl <;> rfl
theorem f2_one (e a : Int) : ∀ u ∈ [Value.int .i64 e, Value.int .i64 a], u.oneCell' = true := fun u hu => by
  simp only [List.mem_cons, List.not_mem_nil, or_false] at hu
  rcases hu with rfl | rfl <;> rfl
def chV (c : Chg) : Value := .agg #[.int .i64 c.kd, .int .i64 c.dv, .int .i64 c.hp, .int .i64 c.pr, .int .i64 c.ln, .int .i64 c.ix, .int .i64 c.cl, .bool c.pm, .bool c.up]
def MtPost (w : World) (R : Chg × Nat × Nat × Int × Int) (e : Ending) (w' : World) : Prop :=
  e = .returned (.tuple #[chV R.1, .int .i64 (R.2.1 : Nat), .int .i64 (R.2.2.1 : Nat), .agg #[.int .i64 R.2.2.2.1, .int .i64 R.2.2.2.2]]) ∧ Ex (fun _ => False) w w'
set_option linter.unusedSimpArgs false in
set_option maxRecDepth 100000 in
set_option maxHeartbeats 16000000 in
/-- configm.match -/
theorem match_any (w : World) (g vc n : Nat) (L : List Wd) (i : Nat) (k : Int) (hk : 0 ≤ k ∧ k < 6) (h : WR w g vc n L) (hE : WEnd L) (hi : i < L.length) :
    Calls Try.prog 44 #[.int .i64 k, .slice (some ⟨g, 0, none⟩) n vc, .int .i64 i] w (MtPost w (mtK L k i)) := by
  obtain ⟨sf1, sf2, sf3, sf4⟩ := shF_ok hk
  obtain ⟨a1, a2, a3, a4⟩ := three_new w [.int .i64 0, .int .i64 0, .int .i64 0, .int .i64 0, .int .i64 0, .int .i64 0, .int .i64 0, .bool false, .bool false] [.int .i64 0, .int .i64 0] [.int .i64 k, .int .i64 0, .int .i64 0, .int .i64 0, .int .i64 0, .int .i64 0, .int .i64 0, .bool false, .bool false] 45 109 45
  have HA1 := hide a1
  have HA2 := hide a2
  have HA3 := hide a3
  have HE := hide a4
  have HF6 : Hid (∀ j, (((w.alloc (.cells #[.int .i64 0, .int .i64 0, .int .i64 0, .int .i64 0, .int .i64 0, .int .i64 0, .int .i64 0, .bool false, .bool false] 45)).alloc (.cells #[.int .i64 0, .int .i64 0] 109)).alloc (.cells #[.int .i64 k, .int .i64 0, .int .i64 0, .int .i64 0, .int .i64 0, .int .i64 0, .int .i64 0, .bool false, .bool false] 45)).frozen? ⟨w.heap.size, j, none⟩ = false) := fun j => by simp [go_sem]
  have HF9 : Hid (∀ j, (((w.alloc (.cells #[.int .i64 0, .int .i64 0, .int .i64 0, .int .i64 0, .int .i64 0, .int .i64 0, .int .i64 0, .bool false, .bool false] 45)).alloc (.cells #[.int .i64 0, .int .i64 0] 109)).alloc (.cells #[.int .i64 k, .int .i64 0, .int .i64 0, .int .i64 0, .int .i64 0, .int .i64 0, .int .i64 0, .bool false, .bool false] 45)).frozen? ⟨w.heap.size + 1, j, none⟩ = false) := fun j => by simp [go_sem]
  have HF10 : Hid (∀ j, (((w.alloc (.cells #[.int .i64 0, .int .i64 0, .int .i64 0, .int .i64 0, .int .i64 0, .int .i64 0, .int .i64 0, .bool false, .bool false] 45)).alloc (.cells #[.int .i64 0, .int .i64 0] 109)).alloc (.cells #[.int .i64 k, .int .i64 0, .int .i64 0, .int .i64 0, .int .i64 0, .int .i64 0, .int .i64 0, .bool false, .bool false] 45)).frozen? ⟨w.heap.size + 2, j, none⟩ = false) := fun j => by simp [go_sem]
  have hgl := h.lt
  have HWR := hide (h.keep a4 (fun e => e))
  have HWE := hide hE
  have HIL := hide hi
  have hsm := h.sm
  have hnl : n = L.length := h.len
  have HK0 : Hid (mtK L k i = mtP L (shF k) i { Chg.zero with kd := k } 0 0) := rfl
  have HSH := hide (fun V => shape_any V k hk)
  have HFL := hide (fun V => fields_any V (shapeB k) (strL (shapeB k)) rfl sf4)
  have HSL : Hid (fldF [] (strL (shapeB k)) = shF k) := rfl
  rw [HSL.out] at HFL
  have HSF := hide (And.intro sf2 sf3)
  clear a1 a2 a3 a4 h hE hi sf2 sf3 sf4 HSL hk
  generalize shapeB k = SB at *
  generalize shF k = F at *
  obtain ⟨nf, hnf⟩ : ∃ m, F.length = m := ⟨_, rfl⟩
  have HNF := hide hnf
  rw [hnf] at sf1 HFL
  clear hnf
  have HNL := hide hnl
  clear hnl
  go_enter Try.func44, Try.ntmps44
  go_upto_region 2 with fail
  obtain ⟨W, hW⟩ : ∃ W, W = ((w.alloc (.cells #[.int .i64 0, .int .i64 0, .int .i64 0, .int .i64 0, .int .i64 0, .int .i64 0, .int .i64 0, .bool false, .bool false] 45)).alloc (.cells #[.int .i64 0, .int .i64 0] 109)).alloc (.cells #[.int .i64 k, .int .i64 0, .int .i64 0, .int .i64 0, .int .i64 0, .int .i64 0, .int .i64 0, .bool false, .bool false] 45) := ⟨_, rfl⟩
  have hlr : w.heap.size + 2 < W.heap.size := by rw [hW]; simp
  rw [← hW] at HA1 HA2 HA3 HE HF6 HF9 HF10 HWR ⊢
  clear hW
  obtain ⟨r10, hr10⟩ : ∃ r, w.heap.size + 2 = r := ⟨_, rfl⟩
  rw [hr10] at HA3 HF10 hlr ⊢
  obtain ⟨r9, hr9⟩ : ∃ r, w.heap.size + 1 = r := ⟨_, rfl⟩
  rw [hr9] at HA2 HF9 ⊢
  obtain ⟨r6, hr6⟩ : ∃ r, w.heap.size = r := ⟨_, rfl⟩
  rw [hr6] at HA1 HF6 hgl ⊢
  have n1 : r6 ≠ r9 := by omega
  have n2 : r6 ≠ r10 := by omega
  have n3 : r9 ≠ r10 := by omega
  have n4 : g ≠ r10 := by omega
  have n5 : w.heap.size ≤ r6 := by omega
  have n6 : w.heap.size ≤ r9 := by omega
  have n7 : w.heap.size ≤ r10 := by omega
  have hr6l : r6 < W.heap.size := by omega
  have hr9l : r9 < W.heap.size := by omega
  clear hr6 hr9 hr10
  have HC0 : Hid (CS W r10 { Chg.zero with kd := k }) := ⟨HA3.out 0 _ rfl, HA3.out 1 _ rfl, HA3.out 2 _ rfl, HA3.out 3 _ rfl, HA3.out 4 _ rfl, HA3.out 5 _ rfl, HA3.out 6 _ rfl, HA3.out 7 _ rfl, HA3.out 8 _ rfl, HF10.out⟩
  clear HA3 HF10
  go_wp2_with fail
  refine (HSH.out _).mono ?_
  rintro e wq ⟨rfl, rfl⟩
  go_wp2_with fail
  refine (HFL.out _).mono ?_
  rintro e w4 ⟨v, rfl, hex4, hown4⟩
  have HOF := hide hown4
  obtain ⟨fa, fc, hfv⟩ := own_len hown4
  subst hfv
  have HW4 := hide (HWR.out.keep hex4 (fun e => e))
  have HC4 := hide (HC0.out.other hex4 (fun e => e))
  have HE4 := hide (HE.out.trans hex4)
  have HB6 : Hid (∀ j x, [.int .i64 0, .int .i64 0, .int .i64 0, .int .i64 0, .int .i64 0, .int .i64 0, .int .i64 0, .bool false, .bool false][j]? = some x → w4.cell? ⟨r6, j, none⟩ = some x) := fun j x hx => hex4.cell (fun e => e) (HA1.out j x hx)
  have HB9 : Hid (∀ j x, [.int .i64 0, .int .i64 0][j]? = some x → w4.cell? ⟨r9, j, none⟩ = some x) := fun j x hx => hex4.cell (fun e => e) (HA2.out j x hx)
  have HG6 : Hid (∀ j, w4.frozen? ⟨r6, j, none⟩ = false) := fun j => (hex4.frozen (fun e => e) hr6l).trans (HF6.out j)
  have HG9 : Hid (∀ j, w4.frozen? ⟨r9, j, none⟩ = false) := fun j => (hex4.frozen (fun e => e) hr9l).trans (HF9.out j)
  have hs4 := hex4.size
  clear hex4 hown4 HC0 HA1 HA2 HF6 HF9 HE HWR HFL HSH
  have HOB : Hid (∀ q, (Value.slice fa nf fc).ownBlock = some q → q ≠ r10) := fun q hq => by have := (HOF.out.lt q hq).1; omega
  go_wp2_with fail
  go_loopw [12, 13] (fun s12 s13 wr => ∃ (m tk : Nat) (c : Chg), s12 = .int .i64 tk ∧ s13 = .int .i64 m ∧ m ≤ nf ∧ Hid (CS wr r10 c) ∧ Hid (mtP L (F.drop m) (i + tk) c m tk = mtK L k i) ∧ i + tk < n ∧ Hid (Ex (fun q => q = r10) w4 wr)) (fun _ s13 _ => nf - (intOf s13).toNat)
  case atStart => exact ⟨0, 0, _, rfl, rfl, Nat.zero_le _, HC4, HK0.out.symm, by have := HIL.out; have := HNL.out; omega, Ex.refl _ _⟩
  case round =>
    obtain ⟨m, tk, c, rfl, rfl, hm, HC, HM, hit, HX⟩ := hrel
    have HWS := hide ((HW4.out.keep HX.out n4).ws HC.out n4)
    have HO := hide (own_kept HOF.out HX.out (fun q hq (z : q = r10) => HOB.out q hq z))
    by_cases hlt : m < nf
    · have d1 : decide ((m : Int) < (nf : Int)) = true := decide_eq_true (by omega)
      have hmi : (m : Int) < (nf : Int) := by omega
      obtain ⟨f, hf⟩ : ∃ f, F[m]? = some f := ⟨_, List.getElem?_eq_getElem (by rw [HNF.out]; exact hlt)⟩
      obtain ⟨gf, cf2, hv⟩ := own_some HO.out (by omega)
      injection hv with hv1 hv2 hv3
      subst hv1
      have hO' : World.ownsRow wr W.heap.size 9 1 (.slice (some ⟨gf, 0, none⟩) F.length fc) F.length (F.map strV) := by rw [HNF.out]; exact HO.out
      have c0 := strV_cell hO' rfl hf
      clear hO'
      have hfm := List.mem_of_getElem? hf
      rw [drop_consG hf, mtP_cons] at HM
      obtain ⟨j, hj⟩ : ∃ j, i + tk = j := ⟨_, rfl⟩
      rw [hj] at HM hit
      have HWJ := hide (wrap_add i tk j (by omega) hj)
      have HJ := hide hj
      have hjL : j < L.length := by have := HNL.out; omega
      have HSL := hide (slot_any _ g vc n r10 L c j f HWS.out HWE.out hjL (HSF.out.2 f hfm))
      have HIN := hide (fun h => slP_in (c := c) HWE.out hjL (HSF.out.1 f hfm) h)
      obtain ⟨c', tk', e', a', hsl⟩ : ∃ a b d e, slP f L j c = (a, b, d, e) := ⟨_, _, _, _, rfl⟩
      rw [hsl] at HM HSL HIN
      simp only [] at HM HSL HIN
      clear hsl hj hjL hfm hv2 hv3 hf
      have hwj := HWJ.out
      go_wp2_with fail
      clear hwj
      refine HSL.out.mono ?_
      rintro e w5 ⟨rfl, hc5, hex5⟩
      have HC5 := hide (hc5.other ((Ex.refl (fun _ => False) w5).alloc (.cells #[.int .i64 e', .int .i64 a'] 109)) (fun e => e))
      have HX5 : Hid (Ex (fun q => q = r10) w4 (w5.alloc (.cells #[.int .i64 e', .int .i64 a'] 109))) := (HX.out.trans hex5).alloc _
      have b0 := new_cells w5 [.int .i64 e', .int .i64 a'] 109 0 _ rfl
      have b1 := new_cells w5 [.int .i64 e', .int .i64 a'] 109 1 _ rfl
      simp only [Addr.add_mid, Nat.zero_add] at b0 b1
      have hs5 : w4.heap.size ≤ w5.heap.size := (HX.out.trans hex5).size
      clear hc5 hex5 c0 HSL HC HX HWS HO
      go_upto_region 8 with fail
      generalize w5.alloc (.cells #[.int .i64 e', .int .i64 a'] 109) = W6 at *
      obtain ⟨r15, hr15⟩ : ∃ r, w5.heap.size = r := ⟨_, rfl⟩
      rw [hr15] at b0 b1 hs5 ⊢
      clear hr15
      have n8 : r15 ≠ r10 := by omega
      have n9 : r15 ≠ r6 := by omega
      have n10 : r15 ≠ r9 := by omega
      by_cases hz : e' = 0
      · rw [if_pos hz] at HM
        have hin := HIN.out hz
        subst hz
        have hin2 : j + tk' < n := by have := HNL.out; omega
        have HM2 : Hid (mtP L (F.drop (m + 1)) (i + (tk + tk')) c' (m + 1) (tk + tk') = mtK L k i) := by
          have := HM.out
          rw [← HJ.out, Nat.add_assoc] at this
          exact this
        have hbd : i + (tk + tk') < n := by have := HJ.out; omega
        have HWT := hide (wrap_add tk tk' (tk + tk') (by omega) rfl)
        obtain ⟨t2, ht2⟩ : ∃ t, tk + tk' = t := ⟨_, rfl⟩
        rw [ht2] at HM2 HWT hbd
        clear hin ht2 hin2
        go_wp2
        go_roundw
        case rel => exact ⟨m + 1, t2, c', congrArg (Value.int .i64) HWT.out, by go_num, by omega, HC5, HM2, hbd, HX5⟩
        case measure => simp [intOf]; omega
      · have hzb : (e' == 0) = false := by simpa using hz
        rw [if_neg hz] at HM
        clear hz
        have HT6 : Hid (W6.drew.there r6 0 9) := there_keep (w := w4) (fun j hj => by
          rw [Nat.zero_add]
          obtain ⟨v, hv⟩ : ∃ v, ([.int .i64 0, .int .i64 0, .int .i64 0, .int .i64 0, .int .i64 0, .int .i64 0, .int .i64 0, .bool false, .bool false] : List Value)[j]? = some v := ⟨_, List.getElem?_eq_getElem (by simpa using hj)⟩
          exact ⟨by rw [HB6.out j v hv]; rfl, HG6.out j⟩) HX5.out.drew n2
        have HT9 : Hid (W6.drew.there r9 0 2) := there_keep (w := w4) (fun j hj => by
          rw [Nat.zero_add]
          obtain ⟨v, hv⟩ : ∃ v, ([.int .i64 0, .int .i64 0] : List Value)[j]? = some v := ⟨_, List.getElem?_eq_getElem (by simpa using hj)⟩
          exact ⟨by rw [HB9.out j v hv]; rfl, HG9.out j⟩) HX5.out.drew n3
        have HXX2 : Ex (fun _ => False) w W6.drew := HE4.out.trans2 HX5.out.drew (fun q (z : q = r10) => .inr (by omega))
        have HXX3 := hide HXX2
        clear HXX2
        go_upto_region 9 with fail
        refine wp_region_held_drew (S := fun w' => CS w' r10 c' ∧ w'.cell? ⟨r15, 0, none⟩ = some (.int .i64 e') ∧ w'.cell? ⟨r15, 1, none⟩ = some (.int .i64 a')) (by kernel_rfl) (And.intro (HC5.out.other (Ex.refl (fun _ => False) _).drew (fun e => e)) (And.intro b0 b1)) (fun hHeld => ?_)
        refine wpAnyH_take (i := 0) (v := ?_) rfl (by kernel_rfl) (by kernel_rfl) (by kernel_rfl) (fun _ _ _ h => h) (Or.inl ⟨by rfl, ?_⟩) (by assumption) ?_
        rotate_left
        · (intro w hSw; (try dsimp only at hSw); (obtain ⟨k0, k1, k2, k3, k4, k5, k6, k7, k8, _⟩ := hSw.1); go_simp; try (with_reducible rfl))
        try simp only [Act.put, List.getElem_toArray, List.getElem_cons_zero, List.getElem_cons_succ, List.setIfInBounds_toArray, List.set_cons_zero, List.set_cons_succ]
        refine wpAnyH_take (i := 1) (v := ?_) rfl (by kernel_rfl) (by kernel_rfl) (by kernel_rfl) (fun _ _ _ h => h) (Or.inl ⟨by rfl, ?_⟩) (by assumption) ?_
        rotate_left
        · (intro w hSw; (try dsimp only at hSw); go_simp; try (with_reducible rfl))
        try simp only [Act.put, List.getElem_toArray, List.getElem_cons_zero, List.getElem_cons_succ, List.setIfInBounds_toArray, List.set_cons_zero, List.set_cons_succ]
        refine wpAnyH_take (i := 2) (v := ?_) rfl (by kernel_rfl) (by kernel_rfl) (by kernel_rfl) (fun _ _ _ h => h) (Or.inl ⟨by rfl, ?_⟩) (by assumption) ?_
        rotate_left
        · (intro w hSw; (try dsimp only at hSw); go_simp; try (with_reducible rfl))
        try simp only [Act.put, List.getElem_toArray, List.getElem_cons_zero, List.getElem_cons_succ, List.setIfInBounds_toArray, List.set_cons_zero, List.set_cons_succ]
        refine wpAnyH_take (i := 3) (v := ?_) rfl (by kernel_rfl) (by kernel_rfl) (by kernel_rfl) (fun _ _ _ h => h) (Or.inl ⟨by rfl, ?_⟩) (by assumption) ?_
        rotate_left
        · (intro w hSw; (try dsimp only at hSw); (obtain ⟨m0, m1⟩ := hSw.2); go_simp; try (with_reducible rfl))
        try simp only [Act.put, List.getElem_toArray, List.getElem_cons_zero, List.getElem_cons_succ, List.setIfInBounds_toArray, List.set_cons_zero, List.set_cons_succ]
        refine wpAnyH_ready (rs := [4]) (by kernel_rfl) (by simp) ?_
        refine (AllReadyH.cons rfl (fun K hK => ?_) AllReadyH.nil)
        · refine step_storeM rfl 45 (.tmp 6) (.tmp 42) rfl r6 0 (Chg.vals c') rfl rfl HT6.out Try.sz45 (c1_one c') ?_
          refine hK.out _ _ ?_ (fun hHeld => ?_)
          · exact ⟨hHeld.1.other (exC (b := r6) _) (Ne.symm n2), (exC (b := r6) _).cell n9 hHeld.2.1, (exC (b := r6) _).cell n9 hHeld.2.2⟩
          clear hK K
          have HT9b := hide (there_keep HT9.out (exC (b := r6) (Chg.vals c')) (fun z => n1 z.symm))
          have HA6 : Hid (∀ j u, (Chg.vals c')[j]? = some u → (W6.drew.setCells r6 0 (Chg.vals c')).cell? ⟨r6, j, none⟩ = some u) := fun _ _ hu => setC_cell HT6.out (Chg.vals c') rfl hu
          have HX1 : Hid (Ex (fun _ => False) w (W6.drew.setCells r6 0 (Chg.vals c'))) := Ex.setsNew n5 _ _ _ HXX3.out
          generalize W6.drew.setCells r6 0 (Chg.vals c') = V1 at *
          clear HT6 HT9 HXX3 HC5 HX5 b0 b1
          try simp only [Act.put, List.getElem_toArray, List.getElem_cons_zero, List.getElem_cons_succ, List.setIfInBounds_toArray, List.set_cons_zero, List.set_cons_succ]
          refine wpAnyH_take (i := 5) (v := ?_) rfl (by kernel_rfl) (by kernel_rfl) (by kernel_rfl) (fun _ _ _ h => h) (Or.inl ⟨by rfl, ?_⟩) (by assumption) ?_
          rotate_left
          · (intro w hSw; (try dsimp only at hSw); go_simp; try (with_reducible rfl))
          try simp only [Act.put, List.getElem_toArray, List.getElem_cons_zero, List.getElem_cons_succ, List.setIfInBounds_toArray, List.set_cons_zero, List.set_cons_succ]
          refine wpAnyH_take (i := 6) (v := ?_) rfl (by kernel_rfl) (by kernel_rfl) (by kernel_rfl) (fun _ _ _ h => h) (Or.inl ⟨by rfl, ?_⟩) (by assumption) ?_
          rotate_left
          · (intro w hSw; (try dsimp only at hSw); go_simp; try (with_reducible rfl))
          try simp only [Act.put, List.getElem_toArray, List.getElem_cons_zero, List.getElem_cons_succ, List.setIfInBounds_toArray, List.set_cons_zero, List.set_cons_succ]
          refine wpAnyH_ready (rs := [7]) (by kernel_rfl) (by simp) ?_
          refine (AllReadyH.cons rfl (fun K hK => ?_) AllReadyH.nil)
          · refine step_storeM rfl 109 (.tmp 9) (.tmp 45) rfl r9 0 [.int .i64 e', .int .i64 a'] rfl rfl HT9b.out Try.sz109 (f2_one e' a') ?_
            refine hK.out _ _ ?_ (fun hHeld => ?_)
            · exact ⟨hHeld.1.other (exC (b := r9) _) (Ne.symm n3), (exC (b := r9) _).cell n10 hHeld.2.1, (exC (b := r9) _).cell n10 hHeld.2.2⟩
            clear hK K
            have HA7 : Hid (∀ j u, (Chg.vals c')[j]? = some u → (V1.setCells r9 0 [.int .i64 e', .int .i64 a']).cell? ⟨r6, j, none⟩ = some u) := fun j u hu => (exC _).cell (q := r6) n1 (HA6.out j u hu)
            have AE0 : (V1.setCells r9 0 [.int .i64 e', .int .i64 a']).cell? ⟨r9, 0, none⟩ = some (.int .i64 e') := setC_cell HT9b.out _ rfl rfl
            have AE1 : (V1.setCells r9 0 [.int .i64 e', .int .i64 a']).cell? ⟨r9, 1, none⟩ = some (.int .i64 a') := setC_cell HT9b.out _ rfl rfl
            have HX2 : Hid (Ex (fun _ => False) w (V1.setCells r9 0 [.int .i64 e', .int .i64 a'])) := Ex.setsNew n6 _ _ _ HX1.out
            generalize V1.setCells r9 0 [.int .i64 e', .int .i64 a'] = V2 at *
            try simp only [Act.put, List.getElem_toArray, List.getElem_cons_zero, List.getElem_cons_succ, List.setIfInBounds_toArray, List.set_cons_zero, List.set_cons_succ]
            refine wpAnyH_done (by kernel_rfl) ?_ _
            have fA := HA7.out
            have A0 := fA 0 _ rfl
            have A1 := fA 1 _ rfl
            have A2 := fA 2 _ rfl
            have A3 := fA 3 _ rfl
            have A4 := fA 4 _ rfl
            have A5 := fA 5 _ rfl
            have A6 := fA 6 _ rfl
            have A7 := fA 7 _ rfl
            have A8 := fA 8 _ rfl
            clear fA
            go_wp2
            exact bodyPost_ret (v := .tuple #[chV c', .int .i64 (tk : Nat), .int .i64 (m : Nat), .agg #[.int .i64 e', .int .i64 a']]) (by simp [results, Try.results44, go_sem, chV, A0, A1, A2, A3, A4, A5, A6, A7, A8, AE0, AE1]) rfl ⟨by rw [← HM.out], HX2.out⟩
    · obtain rfl : m = nf := by omega
      have d1 : decide ((m : Int) < (m : Int)) = false := decide_eq_false (by omega)
      have HWX : Hid ((wr.there r6 0 9) ∧ wr.there r9 0 2) := ⟨there_keep (w := w4) (fun j hj => by
        rw [Nat.zero_add]
        obtain ⟨v, hv⟩ : ∃ v, ([.int .i64 0, .int .i64 0, .int .i64 0, .int .i64 0, .int .i64 0, .int .i64 0, .int .i64 0, .bool false, .bool false] : List Value)[j]? = some v := ⟨_, List.getElem?_eq_getElem (by simpa using hj)⟩
        exact ⟨by rw [HB6.out j v hv]; rfl, HG6.out j⟩) HX.out n2, there_keep (w := w4) (fun j hj => by
        rw [Nat.zero_add]
        obtain ⟨v, hv⟩ : ∃ v, ([.int .i64 0, .int .i64 0] : List Value)[j]? = some v := ⟨_, List.getElem?_eq_getElem (by simpa using hj)⟩
        exact ⟨by rw [HB9.out j v hv]; rfl, HG9.out j⟩) HX.out n3⟩
      rw [List.drop_of_length_le (by rw [HNF.out]; exact Nat.le_refl _), mtP_nil] at HM
      have q6 := fun j v hv => HX.out.cell (q := r6) (j := j) n2 (HB6.out j v hv)
      have q9 := fun j v hv => HX.out.cell (q := r9) (j := j) n3 (HB9.out j v hv)
      have qf6 := fun j => (HX.out.frozen (q := r6) (j := j) n2 (by omega)).trans (HG6.out j)
      have qf9 := fun j => (HX.out.frozen (q := r9) (j := j) n3 (by omega)).trans (HG9.out j)
      have q60 := q6 0 _ rfl
      have q61 := q6 1 _ rfl
      have q62 := q6 2 _ rfl
      have q63 := q6 3 _ rfl
      have q64 := q6 4 _ rfl
      have q65 := q6 5 _ rfl
      have q66 := q6 6 _ rfl
      have q67 := q6 7 _ rfl
      have q68 := q6 8 _ rfl
      have q90 := q9 0 _ rfl
      have q91 := q9 1 _ rfl
      have k0 := HC.out.c0
      have k1 := HC.out.c1
      have k2 := HC.out.c2
      have k3 := HC.out.c3
      have k4 := HC.out.c4
      have k5 := HC.out.c5
      have k6 := HC.out.c6
      have k7 := HC.out.c7
      have k8 := HC.out.c8
      have HXX2 : Hid (Ex (fun _ => False) w wr) := HE4.out.trans2 HX.out (fun q (z : q = r10) => .inr (by omega))
      clear q6 q9 HWX
      go_wp2
      exact bodyPost_ret (v := .tuple #[chV c, .int .i64 (tk : Nat), .int .i64 (m : Nat), .agg #[.int .i64 0, .int .i64 0]]) (by simp [results, Try.results44, go_sem, chV, q60, q61, q62, q63, q64, q65, q66, q67, q68, q90, q91]) rfl ⟨by rw [← HM.out], (((((((((((HXX2.out.setNew n5 _).setNew n5 _).setNew n5 _).setNew n5 _).setNew n5 _).setNew n5 _).setNew n5 _).setNew n5 _).setNew n5 _).setNew n6 _).setNew n6 _)⟩
end Go.Proofs.Qxb6500778a
