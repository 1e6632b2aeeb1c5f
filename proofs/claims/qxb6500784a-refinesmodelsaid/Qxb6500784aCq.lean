import Derived.Test.Qxb6500784aCp
namespace Go.Proofs.Qxb6500784a
open Go.RowKit

theorem Try.sz54 : (Try.prog.info? 54).map (·.size) = some 5 := by kernel_rfl
theorem Try.inf54 : (Try.prog.info? 54).map (fun i => (i.zero, i.size, i.bytes)) = some (some (.agg #[.int .u8 0, .slice none 0 0, .slice none 0 0, .int .i64 0, .slice none 0 0]), 5, 88) := by kernel_rfl
theorem Try.inf68 : (Try.prog.info? 68).map (fun i => (i.zero, i.size, i.bytes)) = some (some (.agg (msv (List.replicate 41 0)).toArray), 41, 72) := by kernel_rfl
theorem msv_one (L : List Msg) : ∀ u ∈ L.flatMap msv, u.oneCell' = true := fun u hu => by
  obtain ⟨p, _, h⟩ := List.mem_flatMap.1 hu
  exact kvs_one _ _ u h
theorem Box0.one (b : Box0) {o i s : Value} (ho : o.oneCell' = true) (hi : i.oneCell' = true) (hs : s.oneCell' = true) : ∀ u ∈ b.vals o i s, u.oneCell' = true := fun u hu => by
  simp only [Box0.vals, List.mem_cons, List.not_mem_nil, or_false] at hu
  rcases hu with rfl | rfl | rfl | rfl | rfl <;> first | rfl | assumption
def boxW (sw : List (Box0 × Value × Value)) : List (Fl × List Value) := sw.map fun p => (p.1.fl, [p.2.1, p.2.2])
theorem boxW_flat (sw : List (Box0 × Value × Value)) : (boxW sw).flatMap (fun p => p.1.lay p.2 nilS) = sw.flatMap fun p => p.1.vals p.2.1 p.2.2 nilS := by
  rw [boxW, List.flatMap_map]; rfl
def CpB (w : World) (l : Box0) (sv : List Box0) (e : Ending) (w' : World) : Prop :=
  ∃ o i s sw, e = .returned (.agg (Box0.vals l o i s).toArray) ∧ Below w.heap.size w w' ∧ sw.map (·.1) = sv ∧ CV w' 54 5 l.fl (boxW sw) [o, i] s ∧ (∀ j, j ∈ blks ([o, i] ++ s :: (boxW sw).flatMap (·.2)) → w.heap.size ≤ j) ∧ (sv = [] → s = nilS)
def CpJ (w wr : World) (A : Nat) (V : List Value) (l : Box0) (o i : Value) (sv : List Box0) (k : Nat) (s : Value) (sk : List (Box0 × Value × Value)) : Prop :=
  CpS w wr A 5 V (l.vals o i s) ∧ CV wr 54 5 l.fl (boxW sk) [o, i] s ∧ sk.map (·.1) = sv.take k ∧ (∀ j, j ∈ blks ([o, i] ++ s :: (boxW sk).flatMap (·.2)) → A + 3 ≤ j) ∧ (k = 0 → s = nilS)
theorem CpJ.below {w wr w' : World} {A : Nat} {V : List Value} {l : Box0} {o i : Value} {sv : List Box0} {k : Nat} {s : Value} {sk : List (Box0 × Value × Value)} (h : CpJ w wr A V l o i sv k s sk) (b : Below wr.heap.size wr w') (hA : A = w.heap.size) : CpJ w w' A V l o i sv k s sk :=
  ⟨h.1.below b hA, h.2.1.keep (S := fun _ => False) (Ex.of b) (fun _ _ e => e), h.2.2⟩
theorem CpJ.c4 {w wr : World} {A : Nat} {V : List Value} {l : Box0} {o i : Value} {sv : List Box0} {k : Nat} {s : Value} {sk : List (Box0 × Value × Value)} (h : CpJ w wr A V l o i sv k s sk) : wr.cell? ⟨A + 2, 4, none⟩ = some s := by
  have := h.1.x 4 s rfl
  simpa using this
theorem own_one {w : World} {B e s n : Nat} {v : Value} {xs : List Value} (h : w.ownsRow B e s v n xs) : v.oneCell' = true := by obtain ⟨a, c, rfl⟩ := own_form h; rfl
/-- The two lists of a box. -/
theorem boxFl {w : World} {b : Box0} {o i : Value} (h1 : w.ownsRow 0 68 41 o b.out.length (b.out.flatMap msv)) (h2 : w.ownsRow 0 68 41 i b.inb.length (b.inb.flatMap msv)) : FlV w b.fl [o, i] := by
  refine ⟨rfl, fun k r v hr hv => ?_⟩
  match k, hr, hv with
  | 0, hr, hv => cases hr; cases hv; exact h1
  | 1, hr, hv => cases hr; cases hv; exact h2
  | k + 2, hr, hv => simp at hv
theorem blks_sub {vs : List Value} {s : Value} {sw : List (Fl × List Value)} (h : (blks (vs ++ s :: sw.flatMap (·.2))).Nodup) {p : Fl × List Value} (hp : p ∈ sw) : (blks p.2).Nodup := by
  rw [blks_append, blks_cons] at h
  have h2 := (List.nodup_append.1 (List.nodup_append.1 h).2.1).2.1
  obtain ⟨a, b, rfl⟩ := List.append_of_mem hp
  rw [List.flatMap_append, List.flatMap_cons, blks_append, blks_append] at h2
  exact (List.nodup_append.1 (List.nodup_append.1 h2).2.1).1
theorem nd2 {a b : Value} (h : ∀ j, a.ownBlock = some j → b.ownBlock = some j → False) : (blks [a, b]).Nodup := by
  rw [blks_cons, blks_cons]
  cases e1 : a.ownBlock with
  | none => cases e2 : b.ownBlock <;> simp [blks]
  | some x => cases e2 : b.ownBlock with
    | none => simp [blks]
    | some y =>
      simp [blks]
      rintro rfl
      exact h x e1 e2
attribute [-simp] Try.isAgg54 Try.sizeOf54 Try.typeInfo54
set_option linter.unusedSimpArgs false in
set_option maxRecDepth 100000 in
set_option maxHeartbeats 4000000 in
theorem copyB_gen (w : World) (l : Box0) (sw : List (Box0 × Value × Value)) (o i s : Value) (hv : CV w 54 5 l.fl (boxW sw) [o, i] s) (hml : l.out.length ≤ 1000000000000 ∧ l.inb.length ≤ 1000000000000) (hs : ∀ p, p ∈ sw → p.1.out.length ≤ 1000000000000 ∧ p.1.inb.length ≤ 1000000000000) (hsl : sw.length ≤ 1000)
    (hrec : sw ≠ [] → ∀ (w : World) (q : Box0) (r r' : Value), q.out.length ≤ 1000000000000 ∧ q.inb.length ≤ 1000000000000 → FlV w q.fl [r, r'] → (blks [r, r']).Nodup → Calls Try.prog 77 #[.agg (q.vals r r' nilS).toArray] w (CpB w q [])) :
    Calls Try.prog 77 #[.agg (l.vals o i s).toArray] w (CpB w l (sw.map (·.1))) := by
  have HS := hide hs
  have HV := hide hv
  have HML := hide hml
  have HREC := hide hrec
  clear hs hv hml hrec
  obtain ⟨i1, hi1, hz1, hy1, hb1⟩ := info_parts Try.inf68
  obtain ⟨i5, hi5, hz5, hy5, hb5⟩ := info_parts Try.inf54
  have HI1 := hide (show Try.prog.info? 68 = some i1 ∧ i1.zero = some (.agg (msv (List.replicate 41 0)).toArray) ∧ i1.size = 41 ∧ i1.bytes = 72 from ⟨hi1, hz1, hy1, hb1⟩)
  have HI5 := hide (show Try.prog.info? 54 = some i5 ∧ i5.zero = some (.agg #[.int .u8 0, .slice none 0 0, .slice none 0 0, .int .i64 0, .slice none 0 0]) ∧ i5.size = 5 ∧ i5.bytes = 88 from ⟨hi5, hz5, hy5, hb5⟩)
  clear hi1 hz1 hy1 hb1 hi5 hz5 hy5 hb5
  have HSRC1 : Hid (w.ownsRow 0 68 41 o l.out.length (l.out.flatMap msv)) := HV.out.fl.2 0 _ o rfl rfl
  have HSRC2 : Hid (w.ownsRow 0 68 41 i l.inb.length (l.inb.flatMap msv)) := HV.out.fl.2 1 _ i rfl rfl
  obtain ⟨sa, sc, hse⟩ := own_form HV.out.sl
  obtain ⟨n, hn⟩ : ∃ n, sw.length = n := ⟨_, rfl⟩
  rw [show (boxW sw).length = n by rw [← hn]; simp [boxW]] at hse
  subst hse
  have HN := hide hn
  have hn1 : n ≤ 1000 := by omega
  clear hn
  obtain ⟨V, hV⟩ : ∃ V, l.vals o i (.slice sa n sc) = V := ⟨_, rfl⟩
  rw [hV]
  have HVl : Hid (V.length = 5) := by rw [← hV]; rfl
  have HV1 : Hid (∀ u ∈ V, u.oneCell' = true) := by rw [← hV]; exact Box0.one l (own_one HSRC1.out) (own_one HSRC2.out) rfl
  have HVe := hide hV
  clear hV
  obtain ⟨R, hR⟩ : ∃ R, CpB w l (sw.map (·.1)) = R := ⟨_, rfl⟩
  rw [hR]
  have HR := hide hR
  clear hR
  go_enter Try.func77, Try.ntmps77
  go_upto_region 1 with fail
  obtain ⟨A, hA⟩ : ∃ A, w.heap.size = A := ⟨_, rfl⟩
  have HA := hide hA
  have R1 := hide (World.rangeAt_alloc (newR w V 54) (.cells #[.int .u8 0, .slice none 0 0, .slice none 0 0, .int .i64 0, .slice none 0 0] 54))
  have T1 := hide (newTz (w.alloc (.cells V.toArray 54)) #[.int .u8 0, .slice none 0 0, .slice none 0 0, .int .i64 0, .slice none 0 0] 54)
  have B1 := hide (be2 w (.cells V.toArray 54) (.cells #[.int .u8 0, .slice none 0 0, .slice none 0 0, .int .i64 0, .slice none 0 0] 54))
  have E1 : Hid (((w.alloc (.cells V.toArray 54)).alloc (.cells #[.int .u8 0, .slice none 0 0, .slice none 0 0, .int .i64 0, .slice none 0 0] 54)).heap.size = A + 2) := by simp [Hid, hA]
  rw [show (w.alloc (.cells V.toArray 54)).heap.size = A + 1 by simp [hA]] at T1
  rw [hA] at R1 B1 ⊢
  generalize (w.alloc (.cells V.toArray 54)).alloc (.cells #[.int .u8 0, .slice none 0 0, .slice none 0 0, .int .i64 0, .slice none 0 0] 54) = w1 at *
  clear hA
  go_wp2_with fail
  simp only [Try.isAgg54, Try.sizeOf54, Result.andThen, ↓reduceIte, ldC w1 A 0 V 5 HVl.out R1.out]
  rw [Oper.upon_value]
  go_wp2_with fail
  simp only [Try.sizeOf54, Result.andThen, HVl.out, ↓reduceIte, stNew w1 54 #[.int .u8 0, .slice none 0 0, .slice none 0 0, .int .i64 0, .slice none 0 0] V 5 Try.sz54 rfl HVl.out HV1.out]
  rw [Oper.upon_skip]
  go_upto_region 2 with fail
  have HC : Hid (CpS w (w1.alloc (.cells V.toArray 54)) A 5 V V) := by
    have RX := newR w1 V 54
    have TX := newT w1 V 54
    rw [E1.out] at RX TX
    rw [HVl.out] at TX
    exact ⟨World.rangeAt_alloc R1.out _, World.there_alloc T1.out _, RX, TX, B1.out.alloc (by rw [E1.out]; omega) _, by simp [E1.out]⟩
  generalize w1.alloc (.cells V.toArray 54) = w2 at *
  rw [E1.out]
  clear R1 T1 B1 E1 w1
  have c1 : w2.cell? ⟨A + 2, 1, none⟩ = some o := by have := HC.out.x 1 o (by rw [← HVe.out]; rfl); simpa using this
  have f1 : w2.frozen? ⟨A + 2, 1, none⟩ = false := by have := (HC.out.tx 1 (by omega)).2; simpa using this
  go_upto_region 3 with fail
  replace HC := hide (HC.out.set 1 nilS)
  rw [← HVe.out, show (l.vals o i (.slice sa n sc)).set 1 nilS = l.vals nilS i (.slice sa n sc) from rfl, HVe.out] at HC
  generalize w2.setCell ⟨A + 2, 1, none⟩ nilS = w3 at *
  clear c1 f1 w2
  have c1 : w3.cell? ⟨A + 2, 1, none⟩ = some nilS := by have := HC.out.x 1 nilS rfl; simpa using this
  have c2 : w3.cell? ⟨A, 1, none⟩ = some o := by have := HC.out.r 1 o (by rw [← HVe.out]; rfl); simpa using this
  go_upto_region 4 with (at_builtin; refine app_copy rfl (.tmp 9) (.tmp 11) 51 rfl 68 i1 _ 41 72 Try.underlying51 HI1.out.1 HI1.out.2.1 HI1.out.2.2.1 HI1.out.2.2.2 (by simp [Value.cells, msv, kvs_len]) (by decide) rfl o l.out.length (l.out.flatMap msv) rfl (own_kept HSRC1.out (S := fun k => A ≤ k) ⟨HC.out.b.os, HC.out.b.tape, HC.out.b.output, HC.out.b.size, fun k _ hS => HC.out.b.block k (by omega)⟩ (fun k hk e => by have := (HSRC1.out.lt k hk).2; have := HA.out; omega)) (msv_one _) (by unfold maxLen; have := HML.out; omega) (by have := HML.out; omega) ?_; intro m' w4 hown hgrow; have c3 : w4.cell? ⟨A + 2, 1, none⟩ = some nilS := (hgrow.cell c1 (by simp)); have f3 : w4.frozen? ⟨A + 2, 1, none⟩ = false := (by rw [World.frozen?_of_block (hgrow.block (A + 2) (by have := HC.out.e; omega) (by simp))]; have := (HC.out.tx 1 (by omega)).2; simpa using this); have exg := Ex.ofGrown (S := fun _ => False) hgrow (fun k e => by cases e); have HC4 := hide (HC.out.ex (S := fun _ => False) exg (fun _ _ e => e) HA.out.symm); have HM4 := hide (own0 hown); have HMB1 : Hid (∀ j, m'.ownBlock = some j → A + 3 ≤ j) := (fun j hj => Nat.le_trans HC.out.e (hown.lt j hj).1); obtain ⟨ma1, mc1, rfl⟩ := own_form hown; clear hown hgrow c1 c2 HC exg)
  replace HC4 := hide (HC4.out.set 1 (.slice ma1 l.out.length mc1))
  rw [show (l.vals nilS i (.slice sa n sc)).set 1 (.slice ma1 l.out.length mc1) = l.vals (.slice ma1 l.out.length mc1) i (.slice sa n sc) from rfl] at HC4
  have HO5 : Hid ((w4.setCell ⟨A + 2, 1, none⟩ (.slice ma1 l.out.length mc1)).ownsRow 0 68 41 (.slice ma1 l.out.length mc1) l.out.length (l.out.flatMap msv)) := own_kept HM4.out (S := fun k => k = A + 2) ((Ex.refl (fun k => k = A + 2) _).set rfl _) (fun k hk e => by have := HMB1.out k hk; omega)
  generalize w4.setCell ⟨A + 2, 1, none⟩ (.slice ma1 l.out.length mc1) = w5 at *
  clear c3 f3 HM4 w4
  have c1 : w5.cell? ⟨A + 2, 2, none⟩ = some i := by have := HC4.out.x 2 i rfl; simpa using this
  have f1 : w5.frozen? ⟨A + 2, 2, none⟩ = false := by have := (HC4.out.tx 2 (by omega)).2; simpa using this
  go_upto_region 5 with fail
  have HC := hide (HC4.out.set 2 nilS)
  rw [show (l.vals (.slice ma1 l.out.length mc1) i (.slice sa n sc)).set 2 nilS = l.vals (.slice ma1 l.out.length mc1) nilS (.slice sa n sc) from rfl] at HC
  have HO6 : Hid ((w5.setCell ⟨A + 2, 2, none⟩ nilS).ownsRow 0 68 41 (.slice ma1 l.out.length mc1) l.out.length (l.out.flatMap msv)) := own_kept HO5.out (S := fun k => k = A + 2) ((Ex.refl (fun k => k = A + 2) _).set rfl _) (fun k hk e => by have := HMB1.out k hk; omega)
  generalize w5.setCell ⟨A + 2, 2, none⟩ nilS = w3 at *
  clear c1 f1 HC4 HO5 w5
  have c1 : w3.cell? ⟨A + 2, 2, none⟩ = some nilS := by have := HC.out.x 2 nilS rfl; simpa using this
  have c2 : w3.cell? ⟨A, 2, none⟩ = some i := by have := HC.out.r 2 i (by rw [← HVe.out]; rfl); simpa using this
  go_upto_region 6 with (at_builtin; refine app_copy rfl (.tmp 16) (.tmp 18) 51 rfl 68 i1 _ 41 72 Try.underlying51 HI1.out.1 HI1.out.2.1 HI1.out.2.2.1 HI1.out.2.2.2 (by simp [Value.cells, msv, kvs_len]) (by decide) rfl i l.inb.length (l.inb.flatMap msv) rfl (own_kept HSRC2.out (S := fun k => A ≤ k) ⟨HC.out.b.os, HC.out.b.tape, HC.out.b.output, HC.out.b.size, fun k _ hS => HC.out.b.block k (by omega)⟩ (fun k hk e => by have := (HSRC2.out.lt k hk).2; have := HA.out; omega)) (msv_one _) (by unfold maxLen; have := HML.out; omega) (by have := HML.out; omega) ?_; intro m' w4 hown hgrow; have c3 : w4.cell? ⟨A + 2, 2, none⟩ = some nilS := (hgrow.cell c1 (by simp)); have f3 : w4.frozen? ⟨A + 2, 2, none⟩ = false := (by rw [World.frozen?_of_block (hgrow.block (A + 2) (by have := HC.out.e; omega) (by simp))]; have := (HC.out.tx 2 (by omega)).2; simpa using this); have exg := Ex.ofGrown (S := fun _ => False) hgrow (fun k e => by cases e); have HC4 := hide (HC.out.ex (S := fun _ => False) exg (fun _ _ e => e) HA.out.symm); have HO7 := hide (own_kept HO6.out exg (fun _ _ e => e)); have HM4 := hide (own0 hown); have HMB2 : Hid (∀ j, m'.ownBlock = some j → A + 3 ≤ j) := (fun j hj => Nat.le_trans HC.out.e (hown.lt j hj).1); have HND : Hid ((blks [.slice ma1 l.out.length mc1, m']).Nodup) := nd2 (fun j hk hj => by have h1 := (hown.lt j hj).1; have h2 := (HO6.out.lt j hk).2; omega); obtain ⟨ma2, mc2, rfl⟩ := own_form hown; clear hown hgrow c1 c2 HC exg)
  replace HC4 := hide (HC4.out.set 2 (.slice ma2 l.inb.length mc2))
  rw [show (l.vals (.slice ma1 l.out.length mc1) nilS (.slice sa n sc)).set 2 (.slice ma2 l.inb.length mc2) = l.vals (.slice ma1 l.out.length mc1) (.slice ma2 l.inb.length mc2) (.slice sa n sc) from rfl] at HC4
  have HO8 : Hid ((w4.setCell ⟨A + 2, 2, none⟩ (.slice ma2 l.inb.length mc2)).ownsRow 0 68 41 (.slice ma1 l.out.length mc1) l.out.length (l.out.flatMap msv)) := own_kept HO7.out (S := fun k => k = A + 2) ((Ex.refl (fun k => k = A + 2) _).set rfl _) (fun k hk e => by have := HMB1.out k hk; omega)
  have HI8 : Hid ((w4.setCell ⟨A + 2, 2, none⟩ (.slice ma2 l.inb.length mc2)).ownsRow 0 68 41 (.slice ma2 l.inb.length mc2) l.inb.length (l.inb.flatMap msv)) := own_kept HM4.out (S := fun k => k = A + 2) ((Ex.refl (fun k => k = A + 2) _).set rfl _) (fun k hk e => by have := HMB2.out k hk; omega)
  generalize w4.setCell ⟨A + 2, 2, none⟩ (.slice ma2 l.inb.length mc2) = w5 at *
  clear c3 f3 HM4 HO7 w4
  obtain ⟨M, hM⟩ : ∃ M, Value.slice ma1 l.out.length mc1 = M := ⟨_, rfl⟩
  obtain ⟨N, hNN⟩ : ∃ N, Value.slice ma2 l.inb.length mc2 = N := ⟨_, rfl⟩
  rw [hM] at HC4 HO8 HMB1 HND ⊢
  rw [hNN] at HC4 HI8 HMB2 HND ⊢
  clear hM hNN
  have c1 : w5.cell? ⟨A + 2, 4, none⟩ = some (.slice sa n sc) := by have := HC4.out.x 4 (.slice sa n sc) rfl; simpa using this
  have f1 : w5.frozen? ⟨A + 2, 4, none⟩ = false := by have := (HC4.out.tx 4 (by omega)).2; simpa using this
  go_upto_region 7 with fail
  have HC6 := hide (HC4.out.set 4 nilS)
  rw [show (l.vals M N (.slice sa n sc)).set 4 nilS = l.vals M N nilS from rfl] at HC6
  have HO9 := hide (own_kept HO8.out (S := fun k => k = A + 2) ((Ex.refl (fun k => k = A + 2) _).set (j := 4) rfl nilS) (fun k hk e => by have := HMB1.out k hk; omega))
  have HI9 := hide (own_kept HI8.out (S := fun k => k = A + 2) ((Ex.refl (fun k => k = A + 2) _).set (j := 4) rfl nilS) (fun k hk e => by have := HMB2.out k hk; omega))
  generalize w5.setCell ⟨A + 2, 4, none⟩ nilS = w6 at *
  clear c1 f1 HC4 HO8 HI8 w5
  have HIV : Hid (CpJ w w6 A V l M N (sw.map (·.1)) 0 nilS []) := by
    refine ⟨HC6.out, ⟨boxFl HO9.out HI9.out, World.ownsRow_nil _ _ _ _, fun p hp => (by cases hp), ?_⟩, rfl, fun j hj => ?_, fun _ => rfl⟩
    · show (blks ([M, N] ++ nilS :: [])).Nodup
      rw [blks_append, show blks (nilS :: []) = [] from rfl, List.append_nil]
      exact HND.out
    · obtain ⟨v, hv, e⟩ := mem_blks.1 hj
      simp [boxW] at hv
      rcases hv with rfl | rfl | rfl
      · exact HMB1.out j e
      · exact HMB2.out j e
      · simp [Value.ownBlock] at e
  clear HC6 HO9 HI9 HMB1 HMB2 HND
  have c7 : w6.cell? ⟨A, 4, none⟩ = some (.slice sa n sc) := by have := HIV.out.1.r 4 (.slice sa n sc) (by rw [← HVe.out]; rfl); simpa using this
  go_wp2
  clear c7
  go_loopw [25] (fun x wr => ∃ (k : Nat) (s : Value) (sk : List (Box0 × Value × Value)), k ≤ n ∧ x = .int .i64 k ∧ CpJ w wr A V l M N (sw.map (·.1)) k s sk) (fun x _ => n - (intOf x).toNat)
  case atStart => exact ⟨0, _, _, Nat.zero_le _, rfl, HIV.out⟩
  case round =>
    obtain ⟨k, s, sk, hk, rfl, hiv⟩ := hrel
    have HI := hide hiv
    clear hiv HIV
    by_cases hlt : k < n
    · obtain ⟨⟨q, r, r2⟩, hp⟩ : ∃ p, sw[k]? = some p := ⟨_, List.getElem?_eq_getElem (by have := HN.out; omega)⟩
      have HP := hide hp
      clear hp
      obtain ⟨g, c, hg⟩ := own_some HV.out.sl (by simp [boxW, HN.out]; omega)
      injection hg with hg1 hg2 hg3
      subst hg1
      clear hg2 hg3
      have HCw : Hid (CV wr 54 5 l.fl (boxW sw) [o, i] (.slice (some ⟨g, 0, none⟩) n sc)) := HV.out.keep (S := fun k => A ≤ k) ⟨HI.out.1.b.os, HI.out.1.b.tape, HI.out.1.b.output, HI.out.1.b.size, fun k _ hS => HI.out.1.b.block k (by omega)⟩ (fun k hk e => by have := HV.out.lt hk; have := HA.out; omega)
      obtain ⟨U, hU⟩ : ∃ U, q.vals r r2 nilS = U := ⟨_, rfl⟩
      have HQF : Hid (FlV wr q.fl [r, r2]) := HCw.out.ea (q.fl, [r, r2]) (List.mem_map.2 ⟨(q, r, r2), List.mem_of_getElem? HP.out, rfl⟩)
      have HQN : Hid ((blks [r, r2]).Nodup) := blks_sub HV.out.nd (List.mem_map.2 ⟨(q, r, r2), List.mem_of_getElem? HP.out, rfl⟩)
      have HUl : Hid (U.length = 5) := by rw [← hU]; rfl
      have HU1 : Hid (∀ u ∈ U, u.oneCell' = true) := by
        rw [← hU]
        exact Box0.one q (own_one (HQF.out.2 0 _ r rfl rfl)) (own_one (HQF.out.2 1 _ r2 rfl rfl)) rfl
      have HUR : Hid (wr.rangeAt g (k * 5) U) := by
        have h1 := own_range HCw.out.sl
        rw [boxW_flat] at h1
        rw [← hU]
        exact range_flat (f := fun p : Box0 × Value × Value => p.1.vals p.2.1 p.2.2 nilS) (fun p hp => rfl) h1 HP.out
      have HUe := hide hU
      clear hU
      go_wp2_with fail
      simp only [Try.sizeOf54, Result.andThen]
      rw [Oper.upon_value]
      go_wp2_with fail
      simp only [Try.isAgg54, Try.sizeOf54, Result.andThen, ↓reduceIte, ldC wr g (k * 5) U 5 HUl.out HUR.out]
      rw [Oper.upon_value]
      go_wp2_with fail
      simp only [Try.sizeOf54, Result.andThen, HUl.out, ↓reduceIte, stNew wr 54 #[.int .u8 0, .slice none 0 0, .slice none 0 0, .int .i64 0, .slice none 0 0] U 5 Try.sz54 rfl HUl.out HU1.out]
      rw [Oper.upon_skip]
      go_upto_region 10 with fail
      have HI7 := hide (HI.out.below (be1 wr (.cells U.toArray 54)) HA.out.symm)
      have HQ7 := hide (HQF.out.keep (S := fun _ => False) (Ex.of (be1 wr (.cells U.toArray 54))) (fun _ _ e => e))
      have HRY := hide (newR wr U 54)
      have HYg : Hid (A + 3 ≤ wr.heap.size) := HI.out.1.e
      have HNY : Hid (s.ownBlock ≠ some wr.heap.size) := fun e => by have := HI.out.2.1.lt (mem_blks.2 ⟨s, by simp, e⟩); omega
      have HYl : Hid (wr.heap.size < (wr.alloc (.cells U.toArray 54)).heap.size) := by simp [Hid]
      generalize wr.alloc (.cells U.toArray 54) = w7 at *
      obtain ⟨Y, hY⟩ : ∃ Y, wr.heap.size = Y := ⟨_, rfl⟩
      rw [hY] at HRY HYg HYl HNY ⊢
      clear hY HI HQF HUR HCw
      have HNS : Hid (∀ j, s.ownBlock = some j → A + 3 ≤ j) := fun j hj => HI7.out.2.2.2.1 j (mem_blks.2 ⟨s, by simp, hj⟩)
      have HSL : Hid (sk.length = k) := by have := congrArg List.length HI7.out.2.2.1; simp [HN.out] at this; show sk.length = k; omega
      have c7 := HI7.out.c4
      refine wp_region_held_drew (S := fun w' => w'.rangeAt Y 0 U) (by kernel_rfl) HRY.out (fun hHeld => ?_)
      refine wpAnyH_take (i := 0) (v := ?_) rfl (by kernel_rfl) (by kernel_rfl) (by kernel_rfl) (fun _ _ _ h => h) (Or.inl ⟨by rfl, ?_⟩) (by assumption) ?_
      rotate_left
      · (intro w hSw; (try dsimp only at hSw); go_simp; try (with_reducible rfl))
      try simp only [Act.put, List.getElem_toArray, List.getElem_cons_zero, List.getElem_cons_succ, List.setIfInBounds_toArray, List.set_cons_zero, List.set_cons_succ]
      refine wpAnyH_take (i := 2) rfl (by kernel_rfl) (by kernel_rfl) (by kernel_rfl) (fun _ _ _ h => h) (yieldsIf_load_mid (by rfl) 54 (.tmp 5) rfl Y 0 rfl U _ (fun w hSw => hSw) Try.underlying54 rfl (by rw [HUl.out]; exact Try.sz54)) (by assumption) ?_
      try simp only [Act.put, List.getElem_toArray, List.getElem_cons_zero, List.getElem_cons_succ, List.setIfInBounds_toArray, List.set_cons_zero, List.set_cons_succ]
      have HCL := hide ((HREC.out (by rintro rfl; exact absurd HP.out (by simp)) w7.drew q r r2 (HS.out _ (List.mem_of_getElem? HP.out)) HQ7.out HQN.out))
      rw [HUe.out] at HCL
      refine wpAnyH_ready (rs := [1, 3]) (by kernel_rfl) (by simp) ?_
      refine (AllReadyH.cons rfl (fun K hK => ?_) (AllReadyH.cons rfl (fun K hK => ?_) AllReadyH.nil))
      · go_simp
        refine hK.out _ _ HRY.out (fun hHeld => ?_)
        clear hK K
        try simp only [Act.put, List.getElem_toArray, List.getElem_cons_zero, List.getElem_cons_succ, List.setIfInBounds_toArray, List.set_cons_zero, List.set_cons_succ]
        refine wpAnyH_ready (rs := [3]) (by kernel_rfl) (by simp) ?_
        refine (AllReadyH.cons rfl (fun K hK => ?_) AllReadyH.nil)
        refine step_call rfl 77 #[.agg U.toArray] (by simp [go_sem]) HCL.out ?_
        rintro e w8 ⟨r', q', s8, sw8, rfl, b8, e8, cv8, nb8, ns8⟩
        have hsw8 : sw8 = [] := List.map_eq_nil_iff.1 e8
        subst hsw8
        have hs8 := ns8 rfl
        subst hs8
        have HB8 := hide (of_drw b8)
        have HI8 := hide (HI7.out.below HB8.out HA.out.symm)
        have HQ8 : Hid (FlV w8 q.fl [r', q']) := cv8.fl
        have HNB8 : Hid (∀ j, r'.ownBlock = some j ∨ q'.ownBlock = some j → w7.heap.size ≤ j) := fun j hj => nb8 j (by rcases hj with hj | hj; exact mem_blks.2 ⟨r', by simp, hj⟩; exact mem_blks.2 ⟨q', by simp, hj⟩)
        have HND8 : Hid ((blks [r', q']).Nodup) := by have := cv8.nd; rw [blks_append] at this; exact (List.nodup_append.1 this).1
        have c8 := HI8.out.c4
        clear b8 e8 cv8 nb8 ns8 HCL
        obtain ⟨U8, hU8⟩ : ∃ U, q.vals r' q' nilS = U := ⟨_, rfl⟩
        have HU8l : Hid (U8.length = 5) := by rw [← hU8]; exact rfl
        have HU81 : Hid (∀ u ∈ U8, u.oneCell' = true) := by
          rw [← hU8]
          exact Box0.one q (own_one (HQ8.out.2 0 _ r' rfl rfl)) (own_one (HQ8.out.2 1 _ q' rfl rfl)) rfl
        rw [hU8]
        have HU8e := hide hU8
        clear hU8
        refine ⟨_, rfl, ?_⟩
        refine hK.out _ _ (range_below HRY.out HYl.out HB8.out) (fun hHeld => ?_)
        clear hK K
        try simp only [Act.put, List.getElem_toArray, List.getElem_cons_zero, List.getElem_cons_succ, List.setIfInBounds_toArray, List.set_cons_zero, List.set_cons_succ]
        refine wpAnyH_ready (rs := [4]) (by kernel_rfl) (by simp) ?_
        refine (AllReadyH.cons rfl (fun K hK => ?_) AllReadyH.nil)
        refine step_buildS rfl 52 54 (.tmp 32) rfl U8 rfl i5 _ 5 88 Try.underlying52 HI5.out.1 HI5.out.2.1 HI5.out.2.2.1 HI5.out.2.2.2 HU8l.out (by decide) (by decide) ?_
        have b9 := be1 w8 (.cells U8.toArray 54)
        have HB9 := hide (lec HB8.out b9)
        have HI9 := hide (HI8.out.below b9 HA.out.symm)
        have HQ9 := hide (HQ8.out.keep (S := fun _ => False) (Ex.of b9) (fun _ _ e => e))
        have HN9 := hide (newR w8 U8 54)
        refine hK.out _ _ (range_below HRY.out HYl.out HB9.out) (fun hHeld => ?_)
        clear hK K b9 c8 c7
        try simp only [Act.put, List.getElem_toArray, List.getElem_cons_zero, List.getElem_cons_succ, List.setIfInBounds_toArray, List.set_cons_zero, List.set_cons_succ]
        generalize w8.alloc (.cells U8.toArray 54) = w9 at *
        refine wpAnyH_ready (rs := [5]) (by kernel_rfl) (by simp) ?_
        refine (AllReadyH.cons rfl (fun K hK => ?_) AllReadyH.nil)
        refine step_append_lies _ rfl (.tmp 30) (.tmp 33) 52 rfl 0 54 i5 _ 5 88 Try.underlying52 HI5.out.1 HI5.out.2.1 HI5.out.2.2.1 HI5.out.2.2.2 rfl (by decide) s (boxW sk).length _ rfl HI9.out.2.1.sl ⟨w8.heap.size, 0, none⟩ 1 1 U8 rfl (by rw [HU8l.out]) (fun j u hj => by rw [Addr.add_mid]; exact HN9.out j u hj) HU81.out (by decide) (by unfold maxLen; simp [boxW, HSL.out]; omega) (by simp [boxW, HSL.out]; omega) (Nat.zero_le _) _ rfl ?_
        intro g2 cap2 wa hown hgrow hat hlt2
        have hl9 : (boxW sk).length = k := by simp [boxW, HSL.out]
        rw [hl9] at hown ⊢
        have HCa : Hid (CV wa 54 5 l.fl (boxW (sk ++ [(q, r', q')])) [M, N] (.slice (some ⟨g2, 0, none⟩) (k + 1) cap2)) := by
          have := CV.push (q := q.fl) (us := [r', q']) HI9.out.2.1 hgrow (s' := .slice (some ⟨g2, 0, none⟩) (k + 1) cap2) (by rw [hl9, show q.fl.lay [r', q'] nilS = q.vals r' q' nilS from rfl, HU8e.out]; exact hown) (fun j hj => by
            have e : g2 = j := by simpa [Value.ownBlock] using hj
            subst e
            exact hat.imp id fun z => by rw [z]; exact Nat.le_refl _) HQ9.out HND8.out (fun j hj hx => by
            obtain ⟨v, hv, ev⟩ := mem_blks.1 hj
            have e : v = r' ∨ v = q' := by simpa using hv
            have h1 := HNB8.out j (by rcases e with rfl | rfl; exact .inl ev; exact .inr ev)
            have h2 := HI7.out.2.1.lt hx
            omega)
          rw [show boxW (sk ++ [(q, r', q')]) = boxW sk ++ [(q.fl, [r', q'])] by simp [boxW]]
          exact this
        have exa := Ex.ofGrown (S := fun j => s.ownBlock = some j) hgrow (fun j e => e.symm)
        have HSa := hide (HI9.out.1.ex exa (fun j hj e => by have := HNS.out j e; omega) HA.out.symm)
        have HGa : Hid (A + 3 ≤ g2) := by show A + 3 ≤ g2; rcases hat with z | z; exact HNS.out _ z; have := HI9.out.1.e; omega
        have HRYa : Hid (wa.rangeAt Y 0 U) := range_ex (range_below HRY.out HYl.out HB9.out) (Nat.lt_of_lt_of_le HYl.out HB9.out.size) exa (fun e => by exact HNY.out e)
        clear hown hgrow hat hlt2 exa hl9
        refine hK.out _ _ HRYa.out (fun hHeld => ?_)
        clear hK K
        try simp only [Act.put, List.getElem_toArray, List.getElem_cons_zero, List.getElem_cons_succ, List.setIfInBounds_toArray, List.set_cons_zero, List.set_cons_succ]
        refine wpAnyH_take (i := 6) (v := ?_) rfl (by kernel_rfl) (by kernel_rfl) (by kernel_rfl) (fun _ _ _ h => h) (Or.inl ⟨by rfl, ?_⟩) (by assumption) ?_
        rotate_left
        · (intro w hSw; (try dsimp only at hSw); go_simp; try (with_reducible rfl))
        try simp only [Act.put, List.getElem_toArray, List.getElem_cons_zero, List.getElem_cons_succ, List.setIfInBounds_toArray, List.set_cons_zero, List.set_cons_succ]
        have ca : wa.cell? ⟨A + 2, 4, none⟩ = some s := by have := HSa.out.x 4 s (rfl); simpa using this
        have fa : wa.frozen? ⟨A + 2, 4, none⟩ = false := by have := (HSa.out.tx 4 (by omega)).2; simpa using this
        refine wpAnyH_ready (rs := [7]) (by kernel_rfl) (by simp) ?_
        refine (AllReadyH.cons rfl (fun K hK => ?_) AllReadyH.nil)
        go_simp
        refine hK.out _ _ (range_set_ne HRYa.out (by have := HYg.out; omega) 4 _) (fun hHeld => ?_)
        clear hK K
        try simp only [Act.put, List.getElem_toArray, List.getElem_cons_zero, List.getElem_cons_succ, List.setIfInBounds_toArray, List.set_cons_zero, List.set_cons_succ]
        refine wpAnyH_done (by kernel_rfl) ?_ _
        have HSb := hide (HSa.out.set 4 (.slice (some ⟨g2, 0, none⟩) (k + 1) cap2))
        rw [show (l.vals M N s).set 4 (.slice (some ⟨g2, 0, none⟩) (k + 1) cap2) = l.vals M N (.slice (some ⟨g2, 0, none⟩) (k + 1) cap2) from rfl] at HSb
        have hnb : ∀ j, j ∈ blks ([M, N] ++ Value.slice (some ⟨g2, 0, none⟩) (k + 1) cap2 :: (boxW (sk ++ [(q, r', q')])).flatMap (·.2)) → A + 3 ≤ j := fun j hj => by
          obtain ⟨v, hv, ev⟩ := mem_blks.1 hj
          simp only [List.mem_append, List.mem_cons, List.not_mem_nil, or_false, boxW, List.map_append, List.flatMap_append, List.map_cons, List.map_nil, List.flatMap_cons, List.flatMap_nil, List.append_nil] at hv
          rcases hv with (rfl | rfl) | rfl | hv | rfl | rfl
          · exact HI7.out.2.2.2.1 j (mem_blks.2 ⟨_, by simp, ev⟩)
          · exact HI7.out.2.2.2.1 j (mem_blks.2 ⟨_, by simp, ev⟩)
          · have e : g2 = j := by simpa [Value.ownBlock] using ev
            rw [← e]; exact HGa.out
          · exact HI7.out.2.2.2.1 j (mem_blks.2 ⟨v, List.mem_append_right _ (List.mem_cons_of_mem _ hv), ev⟩)
          · have h1 := HNB8.out j (.inl ev)
            have h2 := HI7.out.1.e
            omega
          · have h1 := HNB8.out j (.inr ev)
            have h2 := HI7.out.1.e
            omega
        have HIb : Hid (CpJ w (wa.setCell ⟨A + 2, 4, none⟩ (.slice (some ⟨g2, 0, none⟩) (k + 1) cap2)) A V l M N (sw.map (·.1)) (k + 1) (.slice (some ⟨g2, 0, none⟩) (k + 1) cap2) (sk ++ [(q, r', q')])) := by
          refine ⟨HSb.out, HCa.out.keep (S := fun j => j = A + 2) ((Ex.refl (fun j => j = A + 2) _).set rfl _) (fun j hj e => by have := hnb j hj; omega), ?_, hnb, fun e => by omega⟩
          rw [List.map_append, HI7.out.2.2.1, List.take_add_one]
          simp [HP.out]
        clear hnb HND8 HCa HSb HSa HGa HRYa ca fa HI9 HQ9 HN9 HB9 HI8 HQ8 HB8 HNB8 HU8l HU81 HU8e hHeld
        generalize wa.setCell ⟨A + 2, 4, none⟩ (.slice (some ⟨g2, 0, none⟩) (k + 1) cap2) = wb at *
        go_wp2
        go_roundw
        case rel => exact ⟨k + 1, _, _, by omega, by go_num, HIb.out⟩
        case measure => simp [intOf]; omega
      · refine step_call rfl 77 #[.agg U.toArray] (by simp [go_sem]) HCL.out ?_
        rintro e w8 ⟨r', q', s8, sw8, rfl, b8, e8, cv8, nb8, ns8⟩
        have hsw8 : sw8 = [] := List.map_eq_nil_iff.1 e8
        subst hsw8
        have hs8 := ns8 rfl
        subst hs8
        have HB8 := hide (of_drw b8)
        have HI8 := hide (HI7.out.below HB8.out HA.out.symm)
        have HQ8 : Hid (FlV w8 q.fl [r', q']) := cv8.fl
        have HNB8 : Hid (∀ j, r'.ownBlock = some j ∨ q'.ownBlock = some j → w7.heap.size ≤ j) := fun j hj => nb8 j (by rcases hj with hj | hj; exact mem_blks.2 ⟨r', by simp, hj⟩; exact mem_blks.2 ⟨q', by simp, hj⟩)
        have HND8 : Hid ((blks [r', q']).Nodup) := by have := cv8.nd; rw [blks_append] at this; exact (List.nodup_append.1 this).1
        have c8 := HI8.out.c4
        clear b8 e8 cv8 nb8 ns8 HCL
        obtain ⟨U8, hU8⟩ : ∃ U, q.vals r' q' nilS = U := ⟨_, rfl⟩
        have HU8l : Hid (U8.length = 5) := by rw [← hU8]; exact rfl
        have HU81 : Hid (∀ u ∈ U8, u.oneCell' = true) := by
          rw [← hU8]
          exact Box0.one q (own_one (HQ8.out.2 0 _ r' rfl rfl)) (own_one (HQ8.out.2 1 _ q' rfl rfl)) rfl
        rw [hU8]
        have HU8e := hide hU8
        clear hU8
        refine ⟨_, rfl, ?_⟩
        refine hK.out _ _ (range_below HRY.out HYl.out HB8.out) (fun hHeld => ?_)
        clear hK K
        try simp only [Act.put, List.getElem_toArray, List.getElem_cons_zero, List.getElem_cons_succ, List.setIfInBounds_toArray, List.set_cons_zero, List.set_cons_succ]
        refine wpAnyH_ready (rs := [1, 4]) (by kernel_rfl) (by simp) ?_
        refine (AllReadyH.cons rfl (fun K hK => ?_) (AllReadyH.cons rfl (fun K hK => ?_) AllReadyH.nil))
        · go_simp
          refine hK.out _ _ (range_below HRY.out HYl.out HB8.out) (fun hHeld => ?_)
          clear hK K
          try simp only [Act.put, List.getElem_toArray, List.getElem_cons_zero, List.getElem_cons_succ, List.setIfInBounds_toArray, List.set_cons_zero, List.set_cons_succ]
          refine wpAnyH_ready (rs := [4]) (by kernel_rfl) (by simp) ?_
          refine (AllReadyH.cons rfl (fun K hK => ?_) AllReadyH.nil)
          refine step_buildS rfl 52 54 (.tmp 32) rfl U8 rfl i5 _ 5 88 Try.underlying52 HI5.out.1 HI5.out.2.1 HI5.out.2.2.1 HI5.out.2.2.2 HU8l.out (by decide) (by decide) ?_
          have b9 := be1 w8 (.cells U8.toArray 54)
          have HB9 := hide (lec HB8.out b9)
          have HI9 := hide (HI8.out.below b9 HA.out.symm)
          have HQ9 := hide (HQ8.out.keep (S := fun _ => False) (Ex.of b9) (fun _ _ e => e))
          have HN9 := hide (newR w8 U8 54)
          refine hK.out _ _ (range_below HRY.out HYl.out HB9.out) (fun hHeld => ?_)
          clear hK K b9 c8 c7
          try simp only [Act.put, List.getElem_toArray, List.getElem_cons_zero, List.getElem_cons_succ, List.setIfInBounds_toArray, List.set_cons_zero, List.set_cons_succ]
          generalize w8.alloc (.cells U8.toArray 54) = w9 at *
          refine wpAnyH_ready (rs := [5]) (by kernel_rfl) (by simp) ?_
          refine (AllReadyH.cons rfl (fun K hK => ?_) AllReadyH.nil)
          refine step_append_lies _ rfl (.tmp 30) (.tmp 33) 52 rfl 0 54 i5 _ 5 88 Try.underlying52 HI5.out.1 HI5.out.2.1 HI5.out.2.2.1 HI5.out.2.2.2 rfl (by decide) s (boxW sk).length _ rfl HI9.out.2.1.sl ⟨w8.heap.size, 0, none⟩ 1 1 U8 rfl (by rw [HU8l.out]) (fun j u hj => by rw [Addr.add_mid]; exact HN9.out j u hj) HU81.out (by decide) (by unfold maxLen; simp [boxW, HSL.out]; omega) (by simp [boxW, HSL.out]; omega) (Nat.zero_le _) _ rfl ?_
          intro g2 cap2 wa hown hgrow hat hlt2
          have hl9 : (boxW sk).length = k := by simp [boxW, HSL.out]
          rw [hl9] at hown ⊢
          have HCa : Hid (CV wa 54 5 l.fl (boxW (sk ++ [(q, r', q')])) [M, N] (.slice (some ⟨g2, 0, none⟩) (k + 1) cap2)) := by
            have := CV.push (q := q.fl) (us := [r', q']) HI9.out.2.1 hgrow (s' := .slice (some ⟨g2, 0, none⟩) (k + 1) cap2) (by rw [hl9, show q.fl.lay [r', q'] nilS = q.vals r' q' nilS from rfl, HU8e.out]; exact hown) (fun j hj => by
              have e : g2 = j := by simpa [Value.ownBlock] using hj
              subst e
              exact hat.imp id fun z => by rw [z]; exact Nat.le_refl _) HQ9.out HND8.out (fun j hj hx => by
              obtain ⟨v, hv, ev⟩ := mem_blks.1 hj
              have e : v = r' ∨ v = q' := by simpa using hv
              have h1 := HNB8.out j (by rcases e with rfl | rfl; exact .inl ev; exact .inr ev)
              have h2 := HI7.out.2.1.lt hx
              omega)
            rw [show boxW (sk ++ [(q, r', q')]) = boxW sk ++ [(q.fl, [r', q'])] by simp [boxW]]
            exact this
          have exa := Ex.ofGrown (S := fun j => s.ownBlock = some j) hgrow (fun j e => e.symm)
          have HSa := hide (HI9.out.1.ex exa (fun j hj e => by have := HNS.out j e; omega) HA.out.symm)
          have HGa : Hid (A + 3 ≤ g2) := by show A + 3 ≤ g2; rcases hat with z | z; exact HNS.out _ z; have := HI9.out.1.e; omega
          have HRYa : Hid (wa.rangeAt Y 0 U) := range_ex (range_below HRY.out HYl.out HB9.out) (Nat.lt_of_lt_of_le HYl.out HB9.out.size) exa (fun e => by exact HNY.out e)
          clear hown hgrow hat hlt2 exa hl9
          refine hK.out _ _ HRYa.out (fun hHeld => ?_)
          clear hK K
          try simp only [Act.put, List.getElem_toArray, List.getElem_cons_zero, List.getElem_cons_succ, List.setIfInBounds_toArray, List.set_cons_zero, List.set_cons_succ]
          refine wpAnyH_take (i := 6) (v := ?_) rfl (by kernel_rfl) (by kernel_rfl) (by kernel_rfl) (fun _ _ _ h => h) (Or.inl ⟨by rfl, ?_⟩) (by assumption) ?_
          rotate_left
          · (intro w hSw; (try dsimp only at hSw); go_simp; try (with_reducible rfl))
          try simp only [Act.put, List.getElem_toArray, List.getElem_cons_zero, List.getElem_cons_succ, List.setIfInBounds_toArray, List.set_cons_zero, List.set_cons_succ]
          have ca : wa.cell? ⟨A + 2, 4, none⟩ = some s := by have := HSa.out.x 4 s (rfl); simpa using this
          have fa : wa.frozen? ⟨A + 2, 4, none⟩ = false := by have := (HSa.out.tx 4 (by omega)).2; simpa using this
          refine wpAnyH_ready (rs := [7]) (by kernel_rfl) (by simp) ?_
          refine (AllReadyH.cons rfl (fun K hK => ?_) AllReadyH.nil)
          go_simp
          refine hK.out _ _ (range_set_ne HRYa.out (by have := HYg.out; omega) 4 _) (fun hHeld => ?_)
          clear hK K
          try simp only [Act.put, List.getElem_toArray, List.getElem_cons_zero, List.getElem_cons_succ, List.setIfInBounds_toArray, List.set_cons_zero, List.set_cons_succ]
          refine wpAnyH_done (by kernel_rfl) ?_ _
          have HSb := hide (HSa.out.set 4 (.slice (some ⟨g2, 0, none⟩) (k + 1) cap2))
          rw [show (l.vals M N s).set 4 (.slice (some ⟨g2, 0, none⟩) (k + 1) cap2) = l.vals M N (.slice (some ⟨g2, 0, none⟩) (k + 1) cap2) from rfl] at HSb
          have hnb : ∀ j, j ∈ blks ([M, N] ++ Value.slice (some ⟨g2, 0, none⟩) (k + 1) cap2 :: (boxW (sk ++ [(q, r', q')])).flatMap (·.2)) → A + 3 ≤ j := fun j hj => by
            obtain ⟨v, hv, ev⟩ := mem_blks.1 hj
            simp only [List.mem_append, List.mem_cons, List.not_mem_nil, or_false, boxW, List.map_append, List.flatMap_append, List.map_cons, List.map_nil, List.flatMap_cons, List.flatMap_nil, List.append_nil] at hv
            rcases hv with (rfl | rfl) | rfl | hv | rfl | rfl
            · exact HI7.out.2.2.2.1 j (mem_blks.2 ⟨_, by simp, ev⟩)
            · exact HI7.out.2.2.2.1 j (mem_blks.2 ⟨_, by simp, ev⟩)
            · have e : g2 = j := by simpa [Value.ownBlock] using ev
              rw [← e]; exact HGa.out
            · exact HI7.out.2.2.2.1 j (mem_blks.2 ⟨v, List.mem_append_right _ (List.mem_cons_of_mem _ hv), ev⟩)
            · have h1 := HNB8.out j (.inl ev)
              have h2 := HI7.out.1.e
              omega
            · have h1 := HNB8.out j (.inr ev)
              have h2 := HI7.out.1.e
              omega
          have HIb : Hid (CpJ w (wa.setCell ⟨A + 2, 4, none⟩ (.slice (some ⟨g2, 0, none⟩) (k + 1) cap2)) A V l M N (sw.map (·.1)) (k + 1) (.slice (some ⟨g2, 0, none⟩) (k + 1) cap2) (sk ++ [(q, r', q')])) := by
            refine ⟨HSb.out, HCa.out.keep (S := fun j => j = A + 2) ((Ex.refl (fun j => j = A + 2) _).set rfl _) (fun j hj e => by have := hnb j hj; omega), ?_, hnb, fun e => by omega⟩
            rw [List.map_append, HI7.out.2.2.1, List.take_add_one]
            simp [HP.out]
          clear hnb HND8 HCa HSb HSa HGa HRYa ca fa HI9 HQ9 HN9 HB9 HI8 HQ8 HB8 HNB8 HU8l HU81 HU8e hHeld
          generalize wa.setCell ⟨A + 2, 4, none⟩ (.slice (some ⟨g2, 0, none⟩) (k + 1) cap2) = wb at *
          go_wp2
          go_roundw
          case rel => exact ⟨k + 1, _, _, by omega, by go_num, HIb.out⟩
          case measure => simp [intOf]; omega
        · refine step_buildS rfl 52 54 (.tmp 32) rfl U8 rfl i5 _ 5 88 Try.underlying52 HI5.out.1 HI5.out.2.1 HI5.out.2.2.1 HI5.out.2.2.2 HU8l.out (by decide) (by decide) ?_
          have b9 := be1 w8 (.cells U8.toArray 54)
          have HB9 := hide (lec HB8.out b9)
          have HI9 := hide (HI8.out.below b9 HA.out.symm)
          have HQ9 := hide (HQ8.out.keep (S := fun _ => False) (Ex.of b9) (fun _ _ e => e))
          have HN9 := hide (newR w8 U8 54)
          refine hK.out _ _ (range_below HRY.out HYl.out HB9.out) (fun hHeld => ?_)
          clear hK K b9 c8 c7
          try simp only [Act.put, List.getElem_toArray, List.getElem_cons_zero, List.getElem_cons_succ, List.setIfInBounds_toArray, List.set_cons_zero, List.set_cons_succ]
          generalize w8.alloc (.cells U8.toArray 54) = w9 at *
          have c9 := HI9.out.c4
          refine wpAnyH_ready (rs := [1]) (by kernel_rfl) (by simp) ?_
          refine (AllReadyH.cons rfl (fun K hK => ?_) AllReadyH.nil)
          go_simp
          refine hK.out _ _ (range_below HRY.out HYl.out HB9.out) (fun hHeld => ?_)
          clear hK K c9
          try simp only [Act.put, List.getElem_toArray, List.getElem_cons_zero, List.getElem_cons_succ, List.setIfInBounds_toArray, List.set_cons_zero, List.set_cons_succ]
          refine wpAnyH_ready (rs := [5]) (by kernel_rfl) (by simp) ?_
          refine (AllReadyH.cons rfl (fun K hK => ?_) AllReadyH.nil)
          refine step_append_lies _ rfl (.tmp 30) (.tmp 33) 52 rfl 0 54 i5 _ 5 88 Try.underlying52 HI5.out.1 HI5.out.2.1 HI5.out.2.2.1 HI5.out.2.2.2 rfl (by decide) s (boxW sk).length _ rfl HI9.out.2.1.sl ⟨w8.heap.size, 0, none⟩ 1 1 U8 rfl (by rw [HU8l.out]) (fun j u hj => by rw [Addr.add_mid]; exact HN9.out j u hj) HU81.out (by decide) (by unfold maxLen; simp [boxW, HSL.out]; omega) (by simp [boxW, HSL.out]; omega) (Nat.zero_le _) _ rfl ?_
          intro g2 cap2 wa hown hgrow hat hlt2
          have hl9 : (boxW sk).length = k := by simp [boxW, HSL.out]
          rw [hl9] at hown ⊢
          have HCa : Hid (CV wa 54 5 l.fl (boxW (sk ++ [(q, r', q')])) [M, N] (.slice (some ⟨g2, 0, none⟩) (k + 1) cap2)) := by
            have := CV.push (q := q.fl) (us := [r', q']) HI9.out.2.1 hgrow (s' := .slice (some ⟨g2, 0, none⟩) (k + 1) cap2) (by rw [hl9, show q.fl.lay [r', q'] nilS = q.vals r' q' nilS from rfl, HU8e.out]; exact hown) (fun j hj => by
              have e : g2 = j := by simpa [Value.ownBlock] using hj
              subst e
              exact hat.imp id fun z => by rw [z]; exact Nat.le_refl _) HQ9.out HND8.out (fun j hj hx => by
              obtain ⟨v, hv, ev⟩ := mem_blks.1 hj
              have e : v = r' ∨ v = q' := by simpa using hv
              have h1 := HNB8.out j (by rcases e with rfl | rfl; exact .inl ev; exact .inr ev)
              have h2 := HI7.out.2.1.lt hx
              omega)
            rw [show boxW (sk ++ [(q, r', q')]) = boxW sk ++ [(q.fl, [r', q'])] by simp [boxW]]
            exact this
          have exa := Ex.ofGrown (S := fun j => s.ownBlock = some j) hgrow (fun j e => e.symm)
          have HSa := hide (HI9.out.1.ex exa (fun j hj e => by have := HNS.out j e; omega) HA.out.symm)
          have HGa : Hid (A + 3 ≤ g2) := by show A + 3 ≤ g2; rcases hat with z | z; exact HNS.out _ z; have := HI9.out.1.e; omega
          have HRYa : Hid (wa.rangeAt Y 0 U) := range_ex (range_below HRY.out HYl.out HB9.out) (Nat.lt_of_lt_of_le HYl.out HB9.out.size) exa (fun e => by exact HNY.out e)
          clear hown hgrow hat hlt2 exa hl9
          refine hK.out _ _ HRYa.out (fun hHeld => ?_)
          clear hK K
          try simp only [Act.put, List.getElem_toArray, List.getElem_cons_zero, List.getElem_cons_succ, List.setIfInBounds_toArray, List.set_cons_zero, List.set_cons_succ]
          refine wpAnyH_take (i := 6) (v := ?_) rfl (by kernel_rfl) (by kernel_rfl) (by kernel_rfl) (fun _ _ _ h => h) (Or.inl ⟨by rfl, ?_⟩) (by assumption) ?_
          rotate_left
          · (intro w hSw; (try dsimp only at hSw); go_simp; try (with_reducible rfl))
          try simp only [Act.put, List.getElem_toArray, List.getElem_cons_zero, List.getElem_cons_succ, List.setIfInBounds_toArray, List.set_cons_zero, List.set_cons_succ]
          have ca : wa.cell? ⟨A + 2, 4, none⟩ = some s := by have := HSa.out.x 4 s (rfl); simpa using this
          have fa : wa.frozen? ⟨A + 2, 4, none⟩ = false := by have := (HSa.out.tx 4 (by omega)).2; simpa using this
          refine wpAnyH_ready (rs := [7]) (by kernel_rfl) (by simp) ?_
          refine (AllReadyH.cons rfl (fun K hK => ?_) AllReadyH.nil)
          go_simp
          refine hK.out _ _ (range_set_ne HRYa.out (by have := HYg.out; omega) 4 _) (fun hHeld => ?_)
          clear hK K
          try simp only [Act.put, List.getElem_toArray, List.getElem_cons_zero, List.getElem_cons_succ, List.setIfInBounds_toArray, List.set_cons_zero, List.set_cons_succ]
          refine wpAnyH_done (by kernel_rfl) ?_ _
          have HSb := hide (HSa.out.set 4 (.slice (some ⟨g2, 0, none⟩) (k + 1) cap2))
          rw [show (l.vals M N s).set 4 (.slice (some ⟨g2, 0, none⟩) (k + 1) cap2) = l.vals M N (.slice (some ⟨g2, 0, none⟩) (k + 1) cap2) from rfl] at HSb
          have hnb : ∀ j, j ∈ blks ([M, N] ++ Value.slice (some ⟨g2, 0, none⟩) (k + 1) cap2 :: (boxW (sk ++ [(q, r', q')])).flatMap (·.2)) → A + 3 ≤ j := fun j hj => by
            obtain ⟨v, hv, ev⟩ := mem_blks.1 hj
            simp only [List.mem_append, List.mem_cons, List.not_mem_nil, or_false, boxW, List.map_append, List.flatMap_append, List.map_cons, List.map_nil, List.flatMap_cons, List.flatMap_nil, List.append_nil] at hv
            rcases hv with (rfl | rfl) | rfl | hv | rfl | rfl
            · exact HI7.out.2.2.2.1 j (mem_blks.2 ⟨_, by simp, ev⟩)
            · exact HI7.out.2.2.2.1 j (mem_blks.2 ⟨_, by simp, ev⟩)
            · have e : g2 = j := by simpa [Value.ownBlock] using ev
              rw [← e]; exact HGa.out
            · exact HI7.out.2.2.2.1 j (mem_blks.2 ⟨v, List.mem_append_right _ (List.mem_cons_of_mem _ hv), ev⟩)
            · have h1 := HNB8.out j (.inl ev)
              have h2 := HI7.out.1.e
              omega
            · have h1 := HNB8.out j (.inr ev)
              have h2 := HI7.out.1.e
              omega
          have HIb : Hid (CpJ w (wa.setCell ⟨A + 2, 4, none⟩ (.slice (some ⟨g2, 0, none⟩) (k + 1) cap2)) A V l M N (sw.map (·.1)) (k + 1) (.slice (some ⟨g2, 0, none⟩) (k + 1) cap2) (sk ++ [(q, r', q')])) := by
            refine ⟨HSb.out, HCa.out.keep (S := fun j => j = A + 2) ((Ex.refl (fun j => j = A + 2) _).set rfl _) (fun j hj e => by have := hnb j hj; omega), ?_, hnb, fun e => by omega⟩
            rw [List.map_append, HI7.out.2.2.1, List.take_add_one]
            simp [HP.out]
          clear hnb HND8 HCa HSb HSa HGa HRYa ca fa HI9 HQ9 HN9 HB9 HI8 HQ8 HB8 HNB8 HU8l HU81 HU8e hHeld
          generalize wa.setCell ⟨A + 2, 4, none⟩ (.slice (some ⟨g2, 0, none⟩) (k + 1) cap2) = wb at *
          go_wp2
          go_roundw
          case rel => exact ⟨k + 1, _, _, by omega, by go_num, HIb.out⟩
          case measure => simp [intOf]; omega
    · obtain rfl : k = n := by omega
      obtain ⟨F, hF⟩ : ∃ F, l.vals M N s = F := ⟨_, rfl⟩
      have HFl : Hid (F.length = 5) := by rw [← hF]; rfl
      have HF1 : Hid (∀ u ∈ F, u.oneCell' = true) := by
        rw [← hF]
        exact Box0.one l (own_one (HI.out.2.1.fl.2 0 _ M rfl rfl)) (own_one (HI.out.2.1.fl.2 1 _ N rfl rfl)) (own_one HI.out.2.1.sl)
      have HX : Hid (wr.rangeAt (A + 2) 0 F) := by rw [← hF]; exact HI.out.1.x
      have HFe := hide hF
      clear hF
      go_wp2_with fail
      simp only [Try.isAgg54, Try.sizeOf54, Result.andThen, ↓reduceIte, ldC wr (A + 2) 0 F 5 HFl.out HX.out]
      rw [Oper.upon_value]
      go_wp2_with fail
      simp only [Try.sizeOf54, Result.andThen, HFl.out, ↓reduceIte, stC wr (A + 1) 0 F (by rw [HFl.out]; exact HI.out.1.t) HF1.out]
      rw [Oper.upon_skip]
      have HRZ := hide (World.rangeAt_setCells_same wr (A + 1) 0 F (by rw [HFl.out]; exact HI.out.1.t))
      have ex2 : Ex (fun j => j = A + 1) wr (wr.setCells (A + 1) 0 F) := Ex.sets (S := fun j => j = A + 1) rfl F 0 wr (Ex.refl _ _)
      have HRR : Hid (R (.returned (.agg F.toArray)) (wr.setCells (A + 1) 0 F)) := by
        rw [← HR.out]
        refine ⟨M, N, s, sk, by rw [HFe.out], ?_, by rw [HI.out.2.2.1, List.take_of_length_le (by simp [HN.out])], HI.out.2.1.keep ex2 (fun j hj e => by have := HI.out.2.2.2.1 j hj; omega), fun j hj => by have := HI.out.2.2.2.1 j hj; have := HA.out; omega, fun e => HI.out.2.2.2.2 ?_⟩
        · rw [HA.out]
          exact HI.out.1.b.trans (ex2.below (by have := HI.out.1.e; omega) (fun j hj e => by omega))
        · have := congrArg List.length e
          simp [HN.out] at this
          exact this
      clear ex2
      generalize wr.setCells (A + 1) 0 F = wz at *
      go_wp2_with fail
      exact bodyPost_ret (v := .agg F.toArray) (res_cell Try.results77 rfl (run_loadVar_mid wz (A + 1) 0 54 F _ HRZ.out Try.underlying54 rfl (by rw [HFl.out]; exact Try.sz54))) rfl HRR.out
theorem copyB_flat (w : World) (q : Box0) (r r' : Value) (hm : q.out.length ≤ 1000000000000 ∧ q.inb.length ≤ 1000000000000) (hf : FlV w q.fl [r, r']) (hn : (blks [r, r']).Nodup) : Calls Try.prog 77 #[.agg (q.vals r r' nilS).toArray] w (CpB w q []) := by
  refine copyB_gen w q [] r r' nilS ⟨hf, World.ownsRow_nil _ _ _ _, fun p hp => (by cases hp), ?_⟩ hm (fun p hp => by cases hp) (by simp) (fun h => absurd rfl h)
  show (blks ([r, r'] ++ nilS :: [])).Nodup
  rw [blks_append, show blks (nilS :: []) = [] from rfl, List.append_nil]
  exact hn
/-- mailboxm.Copy -/
theorem copyB_any (w : World) (l : Box0) (sw : List (Box0 × Value × Value)) (o i s : Value) (hv : CV w 54 5 l.fl (boxW sw) [o, i] s) (hml : l.out.length ≤ 1000000000000 ∧ l.inb.length ≤ 1000000000000) (hs : ∀ p, p ∈ sw → p.1.out.length ≤ 1000000000000 ∧ p.1.inb.length ≤ 1000000000000) (hsl : sw.length ≤ 1000) :
    Calls Try.prog 77 #[.agg (l.vals o i s).toArray] w (CpB w l (sw.map (·.1))) :=
  copyB_gen w l sw o i s hv hml hs hsl fun _ => copyB_flat
end Go.Proofs.Qxb6500784a
