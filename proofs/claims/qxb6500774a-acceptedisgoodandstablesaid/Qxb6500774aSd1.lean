import Derived.Test.Qxb6500774aSc0
namespace Go.Proofs.Qxb6500774a
open Go.RowKit
set_option linter.unusedVariables false
set_option linter.unusedSimpArgs false

def dp0 : DP := ⟨nb, nb, nb, false, 0, 0, nl, 0, 0⟩
def set9 (w : World) (r : Nat) (f : DP) : World := (((((((((w.setCell ⟨r, 0, none⟩ (.string f.cls)).setCell ⟨r, 1, none⟩ (.string f.nm)).setCell ⟨r, 2, none⟩ (.string f.ty)).setCell ⟨r, 3, none⟩ (.bool f.arr)).setCell ⟨r, 4, none⟩ (.int .i64 f.lo)).setCell ⟨r, 5, none⟩ (.int .i64 f.hi)).setCell ⟨r, 6, none⟩ (.slice f.ini.q f.ini.n f.ini.c)).setCell ⟨r, 7, none⟩ (.int .i64 f.l)).setCell ⟨r, 8, none⟩ (.int .i64 f.c))
theorem dk_s9 {w : World} {r : Nat} {f g : DP} (h : DK w r f) : DK (set9 w r g) r g := by
  unfold set9
  refine ⟨?_, ?_, ?_, ?_, ?_, ?_, ?_, ?_, ?_, fun j => by simp only [set_frozen]; exact h.fz j⟩
  all_goals simp [go_sem, h.c0, h.c1, h.c2, h.c3, h.c4, h.c5, h.c6, h.c7, h.c8]
theorem ex_set9 {w0 w : World} {r : Nat} {g : DP} (e : Ex (fun _ => False) w0 w) (hr : w0.heap.size ≤ r) : Ex (fun _ => False) w0 (set9 w r g) := by
  unfold set9
  exact (((((((((e.setNew (p := r) (j := 0) hr _).setNew (p := r) (j := 1) hr _).setNew (p := r) (j := 2) hr _).setNew (p := r) (j := 3) hr _).setNew (p := r) (j := 4) hr _).setNew (p := r) (j := 5) hr _).setNew (p := r) (j := 6) hr _).setNew (p := r) (j := 7) hr _).setNew (p := r) (j := 8) hr _)
theorem dk_o9 {w : World} {r r' : Nat} {f g : DP} (h : DK w r f) (hne : r ≠ r') : DK (set9 w r' g) r f := by
  have e : Ex (fun k => k = r') w (set9 w r' g) := by
    unfold set9
    exact ((((((((((Ex.refl (fun k => k = r') w).set (p := r') (j := 0) rfl _).set (p := r') (j := 1) rfl _).set (p := r') (j := 2) rfl _).set (p := r') (j := 3) rfl _).set (p := r') (j := 4) rfl _).set (p := r') (j := 5) rfl _).set (p := r') (j := 6) rfl _).set (p := r') (j := 7) rfl _).set (p := r') (j := 8) rfl _)
  exact h.keep e hne
theorem dpl_len (L : List DP) : ∀ V ∈ L.map dpL, V.length = 9 := fun V h => by
  obtain ⟨f, _, rfl⟩ := List.mem_map.1 h
  rfl
/-- two declarations that are the same but for places -/
structure DcP (w : World) (f g : DP) : Prop where
  cls : f.cls = g.cls
  nm : f.nm = g.nm
  ty : f.ty = g.ty
  arr : f.arr = g.arr
  lo : f.lo = g.lo
  hi : f.hi = g.hi
  ini : ∀ W, Ex (fun _ => False) w W → Calls Try.prog 40 #[slV f.ini, slV g.ini, .bool false] W (RdB W true)
theorem IN.low {w w' : World} {o : Option E} {v : SLc} (h : IN w ND o v) (ex : Ex (fun _ => False) w w') : IN w' ND o v := h.keep ex (fun _ z => z.elim) (fun _ z => z.elim)
theorem DS.low {w w' : World} {L : List Dc} {F : List (List Value)} (h : DS w ND L F) (ex : Ex (fun _ => False) w w') : DS w' ND L F := h.keep ex (fun _ z => z.elim) (fun _ z => z.elim)
theorem dc_pairs {w : World} : ∀ (L L' : List Dc) (F F' : List (List Value)), DS w ND L F → DS w ND L' F' → erD L = erD L' → ∃ A B : List DP, F = A.map dpL ∧ F' = B.map dpL ∧ A.length = B.length ∧ ∀ (i : Nat) y z, A[i]? = some y → B[i]? = some z → DcP w y z
  | [], [], F, F', h, h', _ => ⟨[], [], h, h', rfl, fun i y z h => by simp at h⟩
  | [], _ :: _, _, _, _, _, h => by cases h
  | _ :: _, [], _, _, _, _, h => by cases h
  | x :: L, x' :: L', F, F', h, h', he => by
    obtain ⟨v, G, rfl, h1, h2⟩ := h
    obtain ⟨v', G', rfl, h1', h2'⟩ := h'
    unfold erD at he
    rw [List.map_cons, List.map_cons] at he
    injection he with e1 e2
    obtain ⟨A, B, a1, a2, a3, a4⟩ := dc_pairs L L' G G' h2 h2' e2
    refine ⟨⟨x.cls, x.nm, x.ty, x.arr, x.lo, x.hi, v, x.l, x.c⟩ :: A, ⟨x'.cls, x'.nm, x'.ty, x'.arr, x'.lo, x'.hi, v', x'.l, x'.c⟩ :: B, by rw [a1]; rfl, by rw [a2]; rfl, by simp [a3], fun i y z hy hz => ?_⟩
    cases i with
    | succ i => exact a4 i y z (by simpa using hy) (by simpa using hz)
    | zero =>
      simp at hy hz
      subst hy hz
      unfold Dc.er at e1
      injection e1 with q1 q2 q3 q4 q5 q6 q7
      exact ⟨q1, q2, q3, q4, q5, q6, fun W hW => sameI_er (h1.low hW) (h1'.low hW) q7⟩
set_option linter.unusedSimpArgs false in
set_option linter.unusedVariables false in
set_option maxRecDepth 100000 in
set_option maxHeartbeats 32000000 in
theorem sameProg_no (w : World) (x y : ByteArray) (vd vb ud ub : SLc) (hxy : (x.toList == y.toList) = false) : Calls Try.prog 15 #[.agg #[.string x, slV vd, slV vb], .agg #[.string y, slV ud, slV ub], .bool false] w (RdB w false) := by
  have hxy2 : (x.toList != y.toList) = true := by unfold bne; rw [hxy]; rfl
  unfold slV
  have exa : Ex (fun _ => False) w (w.alloc (.cells #[.string x, .slice vd.q vd.n vd.c, .slice vb.q vb.n vb.c] 29)) := (Ex.refl _ _).alloc _
  have HE := hide (exa.alloc (.cells #[.string y, .slice ud.q ud.n ud.c, .slice ub.q ub.n ub.c] 29))
  have HKa := hide ((P3.new1 w x vd vb).keep ((Ex.refl (fun _ => False) (w.alloc (.cells #[.string x, .slice vd.q vd.n vd.c, .slice vb.q vb.n vb.c] 29))).alloc (.cells #[.string y, .slice ud.q ud.n ud.c, .slice ub.q ub.n ub.c] 29)) (fun z => z))
  have HKb := hide (P3.new1 (w.alloc (.cells #[.string x, .slice vd.q vd.n vd.c, .slice vb.q vb.n vb.c] 29)) y ud ub)
  have hsz : (w.alloc (.cells #[.string x, .slice vd.q vd.n vd.c, .slice vb.q vb.n vb.c] 29)).heap.size = w.heap.size + 1 := Array.size_push _
  rw [hsz] at HKb
  clear exa hsz
  obtain ⟨w1, hw1⟩ : ∃ wz, (w.alloc (.cells #[.string x, .slice vd.q vd.n vd.c, .slice vb.q vb.n vb.c] 29)).alloc (.cells #[.string y, .slice ud.q ud.n ud.c, .slice ub.q ub.n ub.c] 29) = wz := ⟨_, rfl⟩
  rw [hw1] at HE HKa HKb
  have HW1 := hide hw1
  clear hw1
  go_enter Try.func15, Try.ntmps15
  go_upto_region 1 with fail
  rw [HW1.out]
  clear HW1
  generalize w.heap.size + 1 = p4 at *
  generalize w.heap.size = p3 at *
  have ka0 := HKa.out.c0
  have kb0 := HKb.out.c0
  go_wp2
  go_ret
  exact ⟨rfl, HE.out⟩
set_option linter.unusedSimpArgs false in
set_option linter.unusedVariables false in
set_option maxRecDepth 100000 in
set_option maxHeartbeats 32000000 in
theorem sameProg_yes (w : World) (x : ByteArray) (vd vb ud ub : SLc) (LA LB : List DP) (hra : RW w ND (LA.map dpL) vd) (hrb : RW w ND (LB.map dpL) ud) (hll : LA.length = LB.length) (hpp : ∀ (i : Nat) y z, LA[i]? = some y → LB[i]? = some z → DcP w y z) (hbo : ∀ W, Ex (fun _ => False) w W → Calls Try.prog 41 #[slV vb, slV ub, .bool false] W (RdB W true)) : Calls Try.prog 15 #[.agg #[.string x, slV vd, slV vb], .agg #[.string x, slV ud, slV ub], .bool false] w (RdB w true) := by
  have HRA := hide hra
  have HRB := hide hrb
  have HPP := hide hpp
  have HLL := hide hll
  have HBO := hide hbo
  have HNA := hide hra.len
  have HNB := hide hrb.len
  clear hra hrb hpp hll hbo
  unfold slV at HBO ⊢
  have exa : Ex (fun _ => False) w (w.alloc (.cells #[.string x, .slice vd.q vd.n vd.c, .slice vb.q vb.n vb.c] 29)) := (Ex.refl _ _).alloc _
  have HE := hide (exa.alloc (.cells #[.string x, .slice ud.q ud.n ud.c, .slice ub.q ub.n ub.c] 29))
  have HKa := hide ((P3.new1 w x vd vb).keep ((Ex.refl (fun _ => False) (w.alloc (.cells #[.string x, .slice vd.q vd.n vd.c, .slice vb.q vb.n vb.c] 29))).alloc (.cells #[.string x, .slice ud.q ud.n ud.c, .slice ub.q ub.n ub.c] 29)) (fun z => z))
  have HKb := hide (P3.new1 (w.alloc (.cells #[.string x, .slice vd.q vd.n vd.c, .slice vb.q vb.n vb.c] 29)) x ud ub)
  have hsz : (w.alloc (.cells #[.string x, .slice vd.q vd.n vd.c, .slice vb.q vb.n vb.c] 29)).heap.size = w.heap.size + 1 := Array.size_push _
  rw [hsz] at HKb
  clear exa hsz
  obtain ⟨w1, hw1⟩ : ∃ wz, (w.alloc (.cells #[.string x, .slice vd.q vd.n vd.c, .slice vb.q vb.n vb.c] 29)).alloc (.cells #[.string x, .slice ud.q ud.n ud.c, .slice ub.q ub.n ub.c] 29) = wz := ⟨_, rfl⟩
  rw [hw1] at HE HKa HKb
  have HW1 := hide hw1
  clear hw1
  obtain ⟨n, hn⟩ : ∃ n, vd.n = n := ⟨_, rfl⟩
  have hn2 : ud.n = n := by rw [← hn, HNB.out.1, HNA.out.1, HLL.out]
  have HN1 := hide hn
  have HN2 := hide hn2
  have HMX : Hid (n ≤ maxLen) := by rw [← hn]; exact HNA.out.2
  clear hn hn2
  go_enter Try.func15, Try.ntmps15
  go_upto_region 1 with fail
  rw [HW1.out]
  clear HW1
  generalize w.heap.size + 1 = p4 at *
  generalize w.heap.size = p3 at *
  have ka0 := HKa.out.c0
  have kb0 := HKb.out.c0
  have ka1 := HKa.out.c1
  have kb1 := HKb.out.c1
  rw [HN1.out] at ka1
  rw [HN2.out] at kb1
  have HX0 : Hid (Ex (fun _ => False) w1 w1) := Ex.refl _ _
  go_upto_region 4 with fail
  clear ka0 kb0 ka1 kb1
  go_loopw [27] (fun s27 wr => ∃ (k : Nat), k ≤ n ∧ s27 = .int .i64 k ∧ Ex (fun _ => False) w1 wr) (fun s27 _ => n - (intOf s27).toNat)
  case atStart => exact ⟨0, Nat.zero_le _, rfl, HX0.out⟩
  case round =>
    clear HX0
    obtain ⟨k, hk, rfl, hex⟩ := hrel
    have HX := hide hex
    clear hex
    by_cases hlt : k < n
    · have d1 : decide ((k : Int) < (n : Int)) = true := decide_eq_true (by omega)
      have d1n : decide (k < n) = true := decide_eq_true hlt
      have hwk : IntKind.i64.wrap ((k : Int) + 1) = ((k + 1 : Nat) : Int) := wrk (by have := HMX.out; unfold maxLen at this; omega)
      obtain ⟨f, hf⟩ : ∃ y, LA[k]? = some y := ⟨_, List.getElem?_eq_getElem (by rw [← HNA.out.1, HN1.out]; exact hlt)⟩
      obtain ⟨g, hg⟩ : ∃ y, LB[k]? = some y := ⟨_, List.getElem?_eq_getElem (by rw [← HNB.out.1, HN2.out]; exact hlt)⟩
      have HDC := hide (HPP.out k f g hf hg)
      obtain ⟨ga, hqa, _, _⟩ := HRA.out.2.2 (show 0 < vd.n by rw [HN1.out]; omega)
      obtain ⟨gb, hqb, _, _⟩ := HRB.out.2.2 (show 0 < ud.n by rw [HN2.out]; omega)
      have HRa := hide (RW.row (L := LA) (F := dpL) (g := ga) (n := vd.n) (c := vd.c) (by rw [← hqa]; exact HRA.out.low (HE.out.trans HX.out)) hf)
      have HRb := hide (RW.row (L := LB) (F := dpL) (g := gb) (n := ud.n) (c := ud.c) (by rw [← hqb]; exact HRB.out.low (HE.out.trans HX.out)) hg)
      have ka1 := (HKa.out.keep HX.out (fun z => z)).c1
      have kb1 := (HKb.out.keep HX.out (fun z => z)).c1
      rw [hqa, HN1.out] at ka1
      rw [hqb, HN2.out] at kb1
      have a0 := HRa.out.1.at (dpl_len LA) HRa.out.2 (j := 0) (by decide) (v := .string f.cls) rfl
      have a1 := HRa.out.1.at (dpl_len LA) HRa.out.2 (j := 1) (by decide) (v := .string f.nm) rfl
      have a2 := HRa.out.1.at (dpl_len LA) HRa.out.2 (j := 2) (by decide) (v := .string f.ty) rfl
      have a3 := HRa.out.1.at (dpl_len LA) HRa.out.2 (j := 3) (by decide) (v := .bool f.arr) rfl
      have a4 := HRa.out.1.at (dpl_len LA) HRa.out.2 (j := 4) (by decide) (v := .int .i64 f.lo) rfl
      have a5 := HRa.out.1.at (dpl_len LA) HRa.out.2 (j := 5) (by decide) (v := .int .i64 f.hi) rfl
      have a6 := HRa.out.1.at (dpl_len LA) HRa.out.2 (j := 6) (by decide) (v := .slice f.ini.q f.ini.n f.ini.c) rfl
      have a7 := HRa.out.1.at (dpl_len LA) HRa.out.2 (j := 7) (by decide) (v := .int .i64 f.l) rfl
      have a8 := HRa.out.1.at (dpl_len LA) HRa.out.2 (j := 8) (by decide) (v := .int .i64 f.c) rfl
      rw [Nat.add_zero] at a0
      have b0 := HRb.out.1.at (dpl_len LB) HRb.out.2 (j := 0) (by decide) (v := .string g.cls) rfl
      have b1 := HRb.out.1.at (dpl_len LB) HRb.out.2 (j := 1) (by decide) (v := .string g.nm) rfl
      have b2 := HRb.out.1.at (dpl_len LB) HRb.out.2 (j := 2) (by decide) (v := .string g.ty) rfl
      have b3 := HRb.out.1.at (dpl_len LB) HRb.out.2 (j := 3) (by decide) (v := .bool g.arr) rfl
      have b4 := HRb.out.1.at (dpl_len LB) HRb.out.2 (j := 4) (by decide) (v := .int .i64 g.lo) rfl
      have b5 := HRb.out.1.at (dpl_len LB) HRb.out.2 (j := 5) (by decide) (v := .int .i64 g.hi) rfl
      have b6 := HRb.out.1.at (dpl_len LB) HRb.out.2 (j := 6) (by decide) (v := .slice g.ini.q g.ini.n g.ini.c) rfl
      have b7 := HRb.out.1.at (dpl_len LB) HRb.out.2 (j := 7) (by decide) (v := .int .i64 g.l) rfl
      have b8 := HRb.out.1.at (dpl_len LB) HRb.out.2 (j := 8) (by decide) (v := .int .i64 g.c) rfl
      rw [Nat.add_zero] at b0
      clear hf hg hqa hqb HRa HRb
      go_upto_region 6 with fail
      go_cut [27, 7, 8, 9] (fun s27 s7 s8 s9 wx => ∃ r8 r9, s27 = .int .i64 k ∧ s7 = .int .i64 k ∧ s8 = .pointer (some ⟨r8, 0, none⟩) ∧ s9 = .pointer (some ⟨r9, 0, none⟩) ∧ DK wx r8 f ∧ DK wx r9 g ∧ Ex (fun _ => False) wr wx)
      case first =>
        refine wp_region_held_drew (S := fun w' => Ex (fun _ => False) wr w') (by kernel_rfl) ((Ex.refl _ _).drew) (fun hHeld => ?_)
        refine wpAnyH_take (i := 0) (v := ?_) rfl (by kernel_rfl) (by kernel_rfl) (by kernel_rfl) (fun _ _ _ h => h) (Or.inl ⟨by rfl, ?_⟩) (by assumption) ?_
        rotate_left
        · (intro w hSw; (try dsimp only at hSw); go_simp; try (with_reducible rfl))
        try simp only [Act.put, List.getElem_toArray, List.getElem_cons_zero, List.getElem_cons_succ, List.setIfInBounds_toArray, List.set_cons_zero, List.set_cons_succ]
        refine wpAnyH_take (i := 1) (v := ?_) rfl (by kernel_rfl) (by kernel_rfl) (by kernel_rfl) (fun _ _ _ h => h) (Or.inl ⟨by rfl, ?_⟩) (by assumption) ?_
        rotate_left
        · (intro w hSw; (try dsimp only at hSw); (have k1 := hSw.cell (fun z => z) ka1; have qa0 := hSw.cell (fun z => z) a0; have qa1 := hSw.cell (fun z => z) a1; have qa2 := hSw.cell (fun z => z) a2; have qa3 := hSw.cell (fun z => z) a3; have qa4 := hSw.cell (fun z => z) a4; have qa5 := hSw.cell (fun z => z) a5; have qa6 := hSw.cell (fun z => z) a6; have qa7 := hSw.cell (fun z => z) a7; have qa8 := hSw.cell (fun z => z) a8); go_simp; try (with_reducible rfl))
        try simp only [Act.put, List.getElem_toArray, List.getElem_cons_zero, List.getElem_cons_succ, List.setIfInBounds_toArray, List.set_cons_zero, List.set_cons_succ]
        refine wpAnyH_take (i := 2) (v := ?_) rfl (by kernel_rfl) (by kernel_rfl) (by kernel_rfl) (fun _ _ _ h => h) (Or.inl ⟨by rfl, ?_⟩) (by assumption) ?_
        rotate_left
        · (intro w hSw; (try dsimp only at hSw); go_simp; try (with_reducible rfl))
        try simp only [Act.put, List.getElem_toArray, List.getElem_cons_zero, List.getElem_cons_succ, List.setIfInBounds_toArray, List.set_cons_zero, List.set_cons_succ]
        refine wpAnyH_take (i := 3) (v := ?_) rfl (by kernel_rfl) (by kernel_rfl) (by kernel_rfl) (fun _ _ _ h => h) (Or.inl ⟨by rfl, ?_⟩) (by assumption) ?_
        rotate_left
        · (intro w hSw; (try dsimp only at hSw); go_simp; try (with_reducible rfl))
        try simp only [Act.put, List.getElem_toArray, List.getElem_cons_zero, List.getElem_cons_succ, List.setIfInBounds_toArray, List.set_cons_zero, List.set_cons_succ]
        refine wpAnyH_take (i := 4) (v := ?_) rfl (by kernel_rfl) (by kernel_rfl) (by kernel_rfl) (fun _ _ _ h => h) (Or.inl ⟨by rfl, ?_⟩) (by assumption) ?_
        rotate_left
        · (intro w hSw; (try dsimp only at hSw); (have k1 := hSw.cell (fun z => z) ka1; have qa0 := hSw.cell (fun z => z) a0; have qa1 := hSw.cell (fun z => z) a1; have qa2 := hSw.cell (fun z => z) a2; have qa3 := hSw.cell (fun z => z) a3; have qa4 := hSw.cell (fun z => z) a4; have qa5 := hSw.cell (fun z => z) a5; have qa6 := hSw.cell (fun z => z) a6; have qa7 := hSw.cell (fun z => z) a7; have qa8 := hSw.cell (fun z => z) a8); go_simp; try (with_reducible rfl))
        try simp only [Act.put, List.getElem_toArray, List.getElem_cons_zero, List.getElem_cons_succ, List.setIfInBounds_toArray, List.set_cons_zero, List.set_cons_succ]
        refine wpAnyH_take (i := 5) (v := ?_) rfl (by kernel_rfl) (by kernel_rfl) (by kernel_rfl) (fun _ _ _ h => h) (Or.inl ⟨by rfl, ?_⟩) (by assumption) ?_
        rotate_left
        · (intro w hSw; (try dsimp only at hSw); go_simp; try (with_reducible rfl))
        try simp only [Act.put, List.getElem_toArray, List.getElem_cons_zero, List.getElem_cons_succ, List.setIfInBounds_toArray, List.set_cons_zero, List.set_cons_succ]
        refine wpAnyH_take (i := 6) (v := ?_) rfl (by kernel_rfl) (by kernel_rfl) (by kernel_rfl) (fun _ _ _ h => h) (Or.inl ⟨by rfl, ?_⟩) (by assumption) ?_
        rotate_left
        · (intro w hSw; (try dsimp only at hSw); (have k1 := hSw.cell (fun z => z) kb1; have qb0 := hSw.cell (fun z => z) b0; have qb1 := hSw.cell (fun z => z) b1; have qb2 := hSw.cell (fun z => z) b2; have qb3 := hSw.cell (fun z => z) b3; have qb4 := hSw.cell (fun z => z) b4; have qb5 := hSw.cell (fun z => z) b5; have qb6 := hSw.cell (fun z => z) b6; have qb7 := hSw.cell (fun z => z) b7; have qb8 := hSw.cell (fun z => z) b8); go_simp; try (with_reducible rfl))
        try simp only [Act.put, List.getElem_toArray, List.getElem_cons_zero, List.getElem_cons_succ, List.setIfInBounds_toArray, List.set_cons_zero, List.set_cons_succ]
        refine wpAnyH_take (i := 7) (v := ?_) rfl (by kernel_rfl) (by kernel_rfl) (by kernel_rfl) (fun _ _ _ h => h) (Or.inl ⟨by rfl, ?_⟩) (by assumption) ?_
        rotate_left
        · (intro w hSw; (try dsimp only at hSw); go_simp; try (with_reducible rfl))
        try simp only [Act.put, List.getElem_toArray, List.getElem_cons_zero, List.getElem_cons_succ, List.setIfInBounds_toArray, List.set_cons_zero, List.set_cons_succ]
        refine wpAnyH_take (i := 8) (v := ?_) rfl (by kernel_rfl) (by kernel_rfl) (by kernel_rfl) (fun _ _ _ h => h) (Or.inl ⟨by rfl, ?_⟩) (by assumption) ?_
        rotate_left
        · (intro w hSw; (try dsimp only at hSw); go_simp; try (with_reducible rfl))
        try simp only [Act.put, List.getElem_toArray, List.getElem_cons_zero, List.getElem_cons_succ, List.setIfInBounds_toArray, List.set_cons_zero, List.set_cons_succ]
        refine wpAnyH_take (i := 9) (v := ?_) rfl (by kernel_rfl) (by kernel_rfl) (by kernel_rfl) (fun _ _ _ h => h) (Or.inl ⟨by rfl, ?_⟩) (by assumption) ?_
        rotate_left
        · (intro w hSw; (try dsimp only at hSw); (have k1 := hSw.cell (fun z => z) kb1; have qb0 := hSw.cell (fun z => z) b0; have qb1 := hSw.cell (fun z => z) b1; have qb2 := hSw.cell (fun z => z) b2; have qb3 := hSw.cell (fun z => z) b3; have qb4 := hSw.cell (fun z => z) b4; have qb5 := hSw.cell (fun z => z) b5; have qb6 := hSw.cell (fun z => z) b6; have qb7 := hSw.cell (fun z => z) b7; have qb8 := hSw.cell (fun z => z) b8); go_simp; try (with_reducible rfl))
        try simp only [Act.put, List.getElem_toArray, List.getElem_cons_zero, List.getElem_cons_succ, List.setIfInBounds_toArray, List.set_cons_zero, List.set_cons_succ]
        generalize hwd : wr.drew = wd at *
        have HWD : Hid (Ex (fun _ => False) wr wd) := hHeld
        have hsz : (wd.alloc (dpO dp0)).heap.size = wd.heap.size + 1 := Array.size_push _
        clear hwd
        refine wpAnyH_ready (rs := [10, 11]) (by kernel_rfl) (by simp) ?_
        refine (AllReadyH.cons rfl (fun K hK => ?_) (AllReadyH.cons rfl (fun K hK => ?_) AllReadyH.nil))
        · go_simp
          refine hK.out _ (wd.alloc (dpO dp0)) ?_ (fun hHeld => ?_)
          · exact HWD.out.alloc _
          clear hK K
          try simp only [Act.put, List.getElem_toArray, List.getElem_cons_zero, List.getElem_cons_succ, List.setIfInBounds_toArray, List.set_cons_zero, List.set_cons_succ]
          have HKA := hide (DK.new wd dp0)
          have HWA : Hid (Ex (fun _ => False) wr (wd.alloc (dpO dp0))) := hHeld
          have hge := HWD.out.size
          clear HWD
          generalize wd.alloc (dpO dp0) = wa at *
          refine wpAnyH_ready (rs := [11]) (by kernel_rfl) (by simp) ?_
          refine (AllReadyH.cons rfl (fun K hK => ?_) AllReadyH.nil)
          · go_simp
            refine hK.out _ (wa.alloc (dpO dp0)) ?_ (fun hHeld => ?_)
            · exact HWA.out.alloc _
            clear hK K
            try simp only [Act.put, List.getElem_toArray, List.getElem_cons_zero, List.getElem_cons_succ, List.setIfInBounds_toArray, List.set_cons_zero, List.set_cons_succ]
            have HS9 := hide (DK.new wa dp0)
            have HS8 := hide (HKA.out.keep ((Ex.refl (fun _ => False) wa).alloc (dpO dp0)) (fun z => z))
            have HWwb : Hid (Ex (fun _ => False) wr (wa.alloc (dpO dp0))) := hHeld
            clear HKA HWA
            rw [hsz] at HS9
            clear hsz
            generalize hrA : wd.heap.size = r8 at *
            generalize hrB : r8 + 1 = r9 at *
            have HNE : Hid (r8 ≠ r9) := by show _ ≠ _; omega
            have hge8 : Hid (wr.heap.size ≤ r8) := hge
            have hge9 : Hid (wr.heap.size ≤ r9) := by show _ ≤ _; omega
            clear hge hrA hrB
            generalize wa.alloc (dpO dp0) = wb at *
            refine wpAnyH_ready (rs := [12]) (by kernel_rfl) (by simp) ?_
            refine (AllReadyH.cons rfl (fun K hK => ?_) AllReadyH.nil)
            · have t0 := HS8.out.c0
              have t1 := HS8.out.c1
              have t2 := HS8.out.c2
              have t3 := HS8.out.c3
              have t4 := HS8.out.c4
              have t5 := HS8.out.c5
              have t6 := HS8.out.c6
              have t7 := HS8.out.c7
              have t8 := HS8.out.c8
              have z0 := HS8.out.fz 0
              have z1 := HS8.out.fz 1
              have z2 := HS8.out.fz 2
              have z3 := HS8.out.fz 3
              have z4 := HS8.out.fz 4
              have z5 := HS8.out.fz 5
              have z6 := HS8.out.fz 6
              have z7 := HS8.out.fz 7
              have z8 := HS8.out.fz 8
              go_simp
              refine hK.out _ (set9 wb r8 f) ?_ (fun hHeld => ?_)
              · exact ex_set9 HWwb.out hge8.out
              clear hK K t0 t1 t2 t3 t4 t5 t6 t7 t8 z0 z1 z2 z3 z4 z5 z6 z7 z8
              try simp only [Act.put, List.getElem_toArray, List.getElem_cons_zero, List.getElem_cons_succ, List.setIfInBounds_toArray, List.set_cons_zero, List.set_cons_succ]
              have HT8 := hide (dk_s9 (g := f) HS8.out)
              have HT9 := hide (dk_o9 (g := f) HS9.out HNE.out.symm)
              have HWws : Hid (Ex (fun _ => False) wr (set9 wb r8 f)) := hHeld
              clear HS8 HS9 HWwb
              generalize set9 wb r8 f = ws at *
              refine wpAnyH_ready (rs := [13]) (by kernel_rfl) (by simp) ?_
              refine (AllReadyH.cons rfl (fun K hK => ?_) AllReadyH.nil)
              · have t0 := HT9.out.c0
                have t1 := HT9.out.c1
                have t2 := HT9.out.c2
                have t3 := HT9.out.c3
                have t4 := HT9.out.c4
                have t5 := HT9.out.c5
                have t6 := HT9.out.c6
                have t7 := HT9.out.c7
                have t8 := HT9.out.c8
                have z0 := HT9.out.fz 0
                have z1 := HT9.out.fz 1
                have z2 := HT9.out.fz 2
                have z3 := HT9.out.fz 3
                have z4 := HT9.out.fz 4
                have z5 := HT9.out.fz 5
                have z6 := HT9.out.fz 6
                have z7 := HT9.out.fz 7
                have z8 := HT9.out.fz 8
                go_simp
                refine hK.out _ (set9 ws r9 g) ?_ (fun hHeld => ?_)
                · exact ex_set9 HWws.out hge9.out
                clear hK K t0 t1 t2 t3 t4 t5 t6 t7 t8 z0 z1 z2 z3 z4 z5 z6 z7 z8
                try simp only [Act.put, List.getElem_toArray, List.getElem_cons_zero, List.getElem_cons_succ, List.setIfInBounds_toArray, List.set_cons_zero, List.set_cons_succ]
                have HF8 := hide (dk_o9 (g := g) HT8.out HNE.out)
                have HF9 := hide (dk_s9 (g := g) HT9.out)
                have HWF : Hid (Ex (fun _ => False) wr (set9 ws r9 g)) := hHeld
                clear HT8 HT9 HWws
                generalize set9 ws r9 g = wf at *
                refine wpAnyH_done (by kernel_rfl) ?_ _
                go_wp2
                go_meet
                case rel => exact ⟨r8, r9, rfl, rfl, rfl, rfl, HF8.out, HF9.out, HWF.out⟩
        · go_simp
          refine hK.out _ (wd.alloc (dpO dp0)) ?_ (fun hHeld => ?_)
          · exact HWD.out.alloc _
          clear hK K
          try simp only [Act.put, List.getElem_toArray, List.getElem_cons_zero, List.getElem_cons_succ, List.setIfInBounds_toArray, List.set_cons_zero, List.set_cons_succ]
          have HKA := hide (DK.new wd dp0)
          have HWA : Hid (Ex (fun _ => False) wr (wd.alloc (dpO dp0))) := hHeld
          have hge := HWD.out.size
          clear HWD
          generalize wd.alloc (dpO dp0) = wa at *
          refine wpAnyH_ready (rs := [10]) (by kernel_rfl) (by simp) ?_
          refine (AllReadyH.cons rfl (fun K hK => ?_) AllReadyH.nil)
          · go_simp
            refine hK.out _ (wa.alloc (dpO dp0)) ?_ (fun hHeld => ?_)
            · exact HWA.out.alloc _
            clear hK K
            try simp only [Act.put, List.getElem_toArray, List.getElem_cons_zero, List.getElem_cons_succ, List.setIfInBounds_toArray, List.set_cons_zero, List.set_cons_succ]
            have HS8 := hide (DK.new wa dp0)
            have HS9 := hide (HKA.out.keep ((Ex.refl (fun _ => False) wa).alloc (dpO dp0)) (fun z => z))
            have HWwb : Hid (Ex (fun _ => False) wr (wa.alloc (dpO dp0))) := hHeld
            clear HKA HWA
            rw [hsz] at HS8
            clear hsz
            generalize hrA : wd.heap.size = r9 at *
            generalize hrB : r9 + 1 = r8 at *
            have HNE : Hid (r8 ≠ r9) := by show _ ≠ _; omega
            have hge9 : Hid (wr.heap.size ≤ r9) := hge
            have hge8 : Hid (wr.heap.size ≤ r8) := by show _ ≤ _; omega
            clear hge hrA hrB
            generalize wa.alloc (dpO dp0) = wb at *
            refine wpAnyH_ready (rs := [12]) (by kernel_rfl) (by simp) ?_
            refine (AllReadyH.cons rfl (fun K hK => ?_) AllReadyH.nil)
            · have t0 := HS8.out.c0
              have t1 := HS8.out.c1
              have t2 := HS8.out.c2
              have t3 := HS8.out.c3
              have t4 := HS8.out.c4
              have t5 := HS8.out.c5
              have t6 := HS8.out.c6
              have t7 := HS8.out.c7
              have t8 := HS8.out.c8
              have z0 := HS8.out.fz 0
              have z1 := HS8.out.fz 1
              have z2 := HS8.out.fz 2
              have z3 := HS8.out.fz 3
              have z4 := HS8.out.fz 4
              have z5 := HS8.out.fz 5
              have z6 := HS8.out.fz 6
              have z7 := HS8.out.fz 7
              have z8 := HS8.out.fz 8
              go_simp
              refine hK.out _ (set9 wb r8 f) ?_ (fun hHeld => ?_)
              · exact ex_set9 HWwb.out hge8.out
              clear hK K t0 t1 t2 t3 t4 t5 t6 t7 t8 z0 z1 z2 z3 z4 z5 z6 z7 z8
              try simp only [Act.put, List.getElem_toArray, List.getElem_cons_zero, List.getElem_cons_succ, List.setIfInBounds_toArray, List.set_cons_zero, List.set_cons_succ]
              have HT8 := hide (dk_s9 (g := f) HS8.out)
              have HT9 := hide (dk_o9 (g := f) HS9.out HNE.out.symm)
              have HWws : Hid (Ex (fun _ => False) wr (set9 wb r8 f)) := hHeld
              clear HS8 HS9 HWwb
              generalize set9 wb r8 f = ws at *
              refine wpAnyH_ready (rs := [13]) (by kernel_rfl) (by simp) ?_
              refine (AllReadyH.cons rfl (fun K hK => ?_) AllReadyH.nil)
              · have t0 := HT9.out.c0
                have t1 := HT9.out.c1
                have t2 := HT9.out.c2
                have t3 := HT9.out.c3
                have t4 := HT9.out.c4
                have t5 := HT9.out.c5
                have t6 := HT9.out.c6
                have t7 := HT9.out.c7
                have t8 := HT9.out.c8
                have z0 := HT9.out.fz 0
                have z1 := HT9.out.fz 1
                have z2 := HT9.out.fz 2
                have z3 := HT9.out.fz 3
                have z4 := HT9.out.fz 4
                have z5 := HT9.out.fz 5
                have z6 := HT9.out.fz 6
                have z7 := HT9.out.fz 7
                have z8 := HT9.out.fz 8
                go_simp
                refine hK.out _ (set9 ws r9 g) ?_ (fun hHeld => ?_)
                · exact ex_set9 HWws.out hge9.out
                clear hK K t0 t1 t2 t3 t4 t5 t6 t7 t8 z0 z1 z2 z3 z4 z5 z6 z7 z8
                try simp only [Act.put, List.getElem_toArray, List.getElem_cons_zero, List.getElem_cons_succ, List.setIfInBounds_toArray, List.set_cons_zero, List.set_cons_succ]
                have HF8 := hide (dk_o9 (g := g) HT8.out HNE.out)
                have HF9 := hide (dk_s9 (g := g) HT9.out)
                have HWF : Hid (Ex (fun _ => False) wr (set9 ws r9 g)) := hHeld
                clear HT8 HT9 HWws
                generalize set9 ws r9 g = wf at *
                refine wpAnyH_done (by kernel_rfl) ?_ _
                go_wp2
                go_meet
                case rel => exact ⟨r8, r9, rfl, rfl, rfl, rfl, HF8.out, HF9.out, HWF.out⟩
      obtain ⟨r8, r9, rfl, rfl, rfl, rfl, hk8, hk9, hexc⟩ := hcut
      have HX2 := hide (HX.out.trans hexc)
      have t0 := hk8.c0
      have ua := hk9.c0
      have t1 := hk8.c1
      have ub1 := hk9.c1
      have t2 := hk8.c2
      have uc := hk9.c2
      have t3 := hk8.c3
      have ud1 := hk9.c3
      have t4 := hk8.c4
      have ue := hk9.c4
      have t5 := hk8.c5
      have uf := hk9.c5
      have t6 := hk8.c6
      have ug := hk9.c6
      rw [← HDC.out.cls] at ua
      rw [← HDC.out.nm] at ub1
      rw [← HDC.out.ty] at uc
      rw [← HDC.out.arr] at ud1
      rw [← HDC.out.lo] at ue
      rw [← HDC.out.hi] at uf
      have HCI := hide (HDC.out.ini wc (HE.out.trans HX2.out))
      unfold slV at HCI
      clear hexc hk8 hk9 HX a0 a1 a2 a3 a4 a5 a6 a7 a8 b0 b1 b2 b3 b4 b5 b6 b7 b8 ka1 kb1
      go_upto_region 9 with fail
      go_wp2_with (go_at_call 40; refine HCI.out.mono ?_; rintro e9 w3 ⟨rfl, hex3⟩; have HX3 := hide (HX2.out.trans hex3); clear hex3; simp only [])
      go_roundw
      case rel => exact ⟨k + 1, by omega, by go_num, HX3.out⟩
      case measure => simp [intOf]; omega
    · obtain rfl : k = n := by omega
      have d1 : decide ((k : Int) < (k : Int)) = false := decide_eq_false (by omega)
      have HF := hide (HE.out.trans HX.out)
      have ka2 := (HKa.out.keep HX.out (fun z => z)).c2
      have kb2 := (HKb.out.keep HX.out (fun z => z)).c2
      have HCB := hide (HBO.out wr HF.out)
      go_upto_region 12 with fail
      go_wp2_with (go_at_call 41; refine HCB.out.mono ?_; rintro e9 w3 ⟨rfl, hex3⟩; have HF3 := hide (HF.out.trans hex3); clear hex3; simp only [])
      go_ret
      exact ⟨rfl, HF3.out⟩
end Go.Proofs.Qxb6500774a
