import Derived.Test.Qxb6500784aNp
namespace Go.Proofs.Qxb6500784a
open Go.RowKit

/-! ### Answers -/
structure An where
  code : Int
  r : Rs
  m : Msg
def An.vals (x : An) (vo vr vs : Value) : List Value := .int .i64 x.code :: (x.r.vals vo vr vs ++ msv x.m)
theorem An.len {x : An} (h1 : x.r.Ok) (h2 : MsgOk x.m) (vo vr vs : Value) : (x.vals vo vr vs).length = 112 := by
  rw [An.vals, List.length_cons, List.length_append, Rs.len h1, msv_len h2]
theorem An.one (x : An) {vo vr vs : Value} (h1 : vo.oneCell' = true) (h2 : vr.oneCell' = true) (h3 : vs.oneCell' = true) : ∀ u ∈ x.vals vo vr vs, u.oneCell' = true := fun u hu => by
  rw [An.vals, List.mem_cons, List.mem_append] at hu
  rcases hu with rfl | hu | hu
  · rfl
  · exact Rs.one _ h1 h2 h3 u hu
  · exact kvs_one _ _ u hu
def StPost (w : World) (b : Nat) (S : List Nat) (P' : Pr) (x : An) (e : Ending) (w' : World) : Prop :=
  ∃ vo vr vs C S', e = .returned (.agg (x.vals vo vr vs).toArray) ∧ RL w' x.r vo vr vs C ∧ x.r.Ok ∧ MsgOk x.m ∧ Link w b S w' S' ∧ PP w' b P' S' ∧ ∀ k, k ∈ C → w.heap.size ≤ k ∧ k ∉ S'
theorem Try.sz70 : (Try.prog.info? 70).map (·.size) = some 112 := by kernel_rfl
theorem Try.zs70 : Try.zeroCells70.size = 112 := by kernel_rfl
theorem Try.zc70 : Try.zeroCells70 = ((⟨0, refR 0 0, msg0⟩ : An).vals nilS nilS nilS).toArray := by kernel_rfl
def an0 : An := ⟨0, refR 0 (-1), msg0⟩
/-- The state of step behind its first lines. -/
structure S0 (w w3 : World) (D : Nat) (O : List Value) : Prop where
  be : Below w.heap.size w w3
  eD : w.heap.size = D
  sz : w3.heap.size = D + 3
  op : w3.rangeAt D 0 O
  t1 : w3.there (D + 1) 0 112
  r2 : w3.rangeAt (D + 2) 0 (an0.vals nilS nilS nilS)
  t2 : w3.there (D + 2) 0 112
theorem Try.zd70 : Try.zeroCells70.setIfInBounds 2 (.int .i64 (-1)) = (an0.vals nilS nilS nilS).toArray := by kernel_rfl
theorem s0_start (w : World) (O : List Value) : S0 w (((w.alloc (.cells O.toArray 33)).alloc (.cells Try.zeroCells70 70)).alloc (.cells (Try.zeroCells70.setIfInBounds 2 (.int .i64 (-1))) 70)) w.heap.size O := by
  have b1 := be1 w (.cells O.toArray 33)
  have b2 := be1 (w.alloc (.cells O.toArray 33)) (.cells Try.zeroCells70 70)
  have b3 := be1 ((w.alloc (.cells O.toArray 33)).alloc (.cells Try.zeroCells70 70)) (.cells (Try.zeroCells70.setIfInBounds 2 (.int .i64 (-1))) 70)
  have z1 : (w.alloc (.cells O.toArray 33)).heap.size = w.heap.size + 1 := by simp
  have z2 : ((w.alloc (.cells O.toArray 33)).alloc (.cells Try.zeroCells70 70)).heap.size = w.heap.size + 1 + 1 := by simp
  have r2 := newR ((w.alloc (.cells O.toArray 33)).alloc (.cells Try.zeroCells70 70)) (an0.vals nilS nilS nilS) 70
  have t2 := newT ((w.alloc (.cells O.toArray 33)).alloc (.cells Try.zeroCells70 70)) (an0.vals nilS nilS nilS) 70
  rw [← Try.zd70, z2] at r2 t2
  rw [show (an0.vals nilS nilS nilS).length = 112 by kernel_rfl] at t2
  have t1 := newTz (w.alloc (.cells O.toArray 33)) Try.zeroCells70 70
  rw [z1, Try.zs70] at t1
  have t1' := there_below t1 (by rw [z2]; omega) b3
  have o3 := range_below (range_below (newR w O 33) (by rw [z1]; omega) b2) (by rw [z2]; omega) b3
  exact ⟨lec (lec b1 b2) b3, rfl, by simp, o3, t1', r2, t2⟩
theorem S0.cell {w w3 : World} {D : Nat} {O : List Value} (h : S0 w w3 D O) {j : Nat} {u : Value} (hj : O[j]? = some u) : w3.cell? ⟨D, j, none⟩ = some u := by
  have := h.op j u hj
  rwa [Nat.zero_add] at this
theorem rl_nil (w : World) (c f : Int) : RL w (refR c f) nilS nilS nilS [] := ⟨World.ownsRow_nil _ _ _ _, World.ownsRow_nil _ _ _ _, World.ownsRow_nil _ _ _ _, rfl, List.nodup_nil, rfl⟩
/-- The state of step. -/
structure S1 (w : World) (b : Nat) (S : List Nat) (D : Nat) (x : World) (P' : Pr) (S' : List Nat) (an : An) (vo vr vs : Value) (C : List Nat) : Prop where
  r2 : x.rangeAt (D + 2) 0 (an.vals vo vr vs)
  t2 : x.there (D + 2) 0 112
  t1 : x.there (D + 1) 0 112
  rl : RL x an.r vo vr vs C
  ok : an.r.Ok
  mo : MsgOk an.m
  k : Link w b S x S'
  pp : PP x b P' S'
  c : ∀ k, k ∈ C → w.heap.size ≤ k ∧ k ∉ S' ∧ k ≠ D + 1 ∧ k ≠ D + 2 ∧ k ≠ b
  n1 : D + 1 ∉ S' ∧ D + 1 ≠ b
  n2 : D + 2 ∉ S' ∧ D + 2 ≠ b
  eD : w.heap.size = D
  sz : D + 2 < x.heap.size
theorem s1_of {w w3 : World} {D b : Nat} {O : List Value} {S : List Nat} {P : Pr} (h : S0 w w3 D O) (hp : PP w b P S) : S1 w b S D w3 P S an0 nilS nilS nilS [] := by
  have hb := hp.bl
  have e := h.eD
  exact ⟨h.r2, h.t2, h.t1, rl_nil _ _ _, refR_ok _ _, msg0_ok, (Link.refl w b S).below h.be, hp.below h.be, fun k hk => absurd hk (by simp), ⟨fun z => by have := hp.lt z; omega, by omega⟩, ⟨fun z => by have := hp.lt z; omega, by omega⟩, e, by have := h.sz; omega⟩
section
variable {w : World} {b : Nat} {S : List Nat} {D : Nat} {x : World} {P' : Pr} {S' : List Nat} {an : An} {vo vr vs : Value} {C : List Nat}
theorem S1.link (h : S1 w b S D x P' S' an vo vr vs C) {y : World} {P'' : Pr} {S'' : List Nat} (k1 : Link x b S' y S'') (p1 : PP y b P'' S'') : S1 w b S D y P'' S'' an vo vr vs C := by
  have sz := h.sz
  have o1 : ¬ (D + 1 = b ∨ D + 1 ∈ S') := fun e => e.elim h.n1.2 h.n1.1
  have o2 : ¬ (D + 2 = b ∨ D + 2 ∈ S') := fun e => e.elim h.n2.2 h.n2.1
  have nn : ∀ q, q ∉ S' → q < x.heap.size → q ∉ S'' := fun q h1 h2 e => by
    rcases k1.2 q e with z | z
    · exact h1 z
    · omega
  exact ⟨range_ex h.r2 sz k1.1 o2, there_ex h.t2 sz k1.1 o2, there_ex h.t1 (by omega) k1.1 o1, h.rl.keep k1.1 (fun j hj e => e.elim (fun z => (h.c j hj).2.2.2.2 z) (fun z => (h.c j hj).2.1 z)), h.ok, h.mo, h.k.trans k1, p1, fun j hj => ⟨(h.c j hj).1, nn j (h.c j hj).2.1 (h.rl.lt hj), (h.c j hj).2.2⟩, ⟨nn _ h.n1.1 (by omega), h.n1.2⟩, ⟨nn _ h.n2.1 sz, h.n2.2⟩, h.eD, Nat.lt_of_lt_of_le sz k1.1.size⟩
theorem S1.step (h : S1 w b S D x P' S' an vo vr vs C) {y : World} {P'' : Pr} (k : PStep x b S' P'' y) : ∃ S'', S1 w b S D y P'' S'' an vo vr vs C := by
  obtain ⟨S'', k1, p1⟩ := k.out
  exact ⟨S'', h.link k1 p1⟩
theorem S1.below (h : S1 w b S D x P' S' an vo vr vs C) {y : World} (k : Below x.heap.size x y) : S1 w b S D y P' S' an vo vr vs C := by
  have sz := h.sz
  exact ⟨range_below h.r2 sz k, there_below h.t2 sz k, there_below h.t1 (by omega) k, h.rl.keep (Ex.of (S := fun _ => False) k) (fun _ _ e => e), h.ok, h.mo, h.k.below k, h.pp.below k, h.c, h.n1, h.n2, h.eD, Nat.lt_of_lt_of_le sz k.size⟩
/-- The answer's variable is written. -/
theorem S1.wr (h : S1 w b S D x P' S' an vo vr vs C) {y : World} (ex : Ex (fun j => j = D + 2) x y) {an' : An} {vo' vr' vs' : Value} {C' : List Nat} (hr : y.rangeAt (D + 2) 0 (an'.vals vo' vr' vs')) (ht : y.there (D + 2) 0 112) (rl : RL x an'.r vo' vr' vs' C') (ok : an'.r.Ok) (mk : MsgOk an'.m) (hc : ∀ k, k ∈ C' → w.heap.size ≤ k ∧ k ∉ S' ∧ k ≠ D + 1 ∧ k ≠ D + 2 ∧ k ≠ b) : S1 w b S D y P' S' an' vo' vr' vs' C' := by
  have sz := h.sz
  exact ⟨hr, ht, there_ex h.t1 (by omega) ex (by omega), rl.keep ex (fun j hj e => (hc j hj).2.2.2.1 e), ok, mk, h.k.loc ex (by have := h.eD; omega), h.pp.ex ex (fun e => h.n2.2 e.symm) (fun j hj e => h.n2.1 (e ▸ hj)), hc, h.n1, h.n2, h.eD, Nat.lt_of_lt_of_le sz ex.size⟩
theorem S1.code (h : S1 w b S D x P' S' an vo vr vs C) (c : Int) : S1 w b S D (x.setCell ⟨D + 2, 0, none⟩ (.int .i64 c)) P' S' { an with code := c } vo vr vs C := by
  refine h.wr ((Ex.refl (fun j => j = D + 2) x).set (j := 0) rfl _) ?_ (there_set h.t2 _ _) h.rl h.ok h.mo h.c
  have := range_set h.r2 0 (.int .i64 c)
  rw [Nat.zero_add] at this
  exact this
theorem S1.res (h : S1 w b S D x P' S' an vo vr vs C) {r : Rs} {vo' vr' vs' : Value} {C' : List Nat} (rl : RL x r vo' vr' vs' C') (ok : r.Ok) (hc : ∀ k, k ∈ C' → w.heap.size ≤ k ∧ k ∉ S' ∧ k ≠ D + 1 ∧ k ≠ D + 2 ∧ k ≠ b) : S1 w b S D (x.setCells (D + 2) 1 (r.vals vo' vr' vs')) P' S' { an with r := r } vo' vr' vs' C' := by
  refine h.wr (Ex.sets (S := fun j => j = D + 2) rfl _ _ _ (Ex.refl _ _)) ?_ (World.there_setCells h.t2 _ _ _) rl ok h.mo hc
  have := range_sets (pre := [.int .i64 an.code]) (old := an.r.vals vo vr vs) (new := r.vals vo' vr' vs') (post := msv an.m) h.r2 (by rw [Rs.len h.ok, Rs.len ok]) (by rw [Rs.len ok]; exact there_part h.t2 (by show 1 + 70 ≤ 112; omega))
  exact this
theorem S1.msg (h : S1 w b S D x P' S' an vo vr vs C) {m : Msg} (mk : MsgOk m) : S1 w b S D (x.setCells (D + 2) 71 (msv m)) P' S' { an with m := m } vo vr vs C := by
  refine h.wr (Ex.sets (S := fun j => j = D + 2) rfl _ _ _ (Ex.refl _ _)) ?_ (World.there_setCells h.t2 _ _ _) h.rl h.ok mk h.c
  have e : (an.vals vo vr vs) = (.int .i64 an.code :: an.r.vals vo vr vs) ++ (msv an.m ++ []) := by simp [An.vals]
  have hr := h.r2
  rw [e] at hr
  have l : (Value.int .i64 an.code :: an.r.vals vo vr vs).length = 71 := by rw [List.length_cons, Rs.len h.ok]
  have := range_sets (pre := .int .i64 an.code :: an.r.vals vo vr vs) (old := msv an.m) (new := msv m) (post := []) hr (by rw [msv_len h.mo, msv_len mk]) (by rw [l, msv_len mk]; exact there_part h.t2 (by omega))
  rw [l] at this
  have e2 : ({ an with m := m } : An).vals vo vr vs = (.int .i64 an.code :: an.r.vals vo vr vs) ++ (msv m ++ []) := by simp [An.vals]
  rw [e2]
  exact this
theorem S1.fin (h : S1 w b S D x P' S' an vo vr vs C) {y : World} (ex : Ex (fun j => j = D + 1) x y) : StPost w b S P' an (.returned (.agg (an.vals vo vr vs).toArray)) y :=
  ⟨vo, vr, vs, C, S', rfl, h.rl.keep ex (fun j hj e => (h.c j hj).2.2.1 e), h.ok, h.mo, h.k.loc ex (by have := h.eD; omega), h.pp.ex ex (fun e => h.n1.2 e.symm) (fun j hj e => h.n1.1 (e ▸ hj)), fun j hj => ⟨(h.c j hj).1, (h.c j hj).2.1⟩⟩
theorem S1.c0 (h : S1 w b S D x P' S' an vo vr vs C) : x.cell? ⟨D + 2, 0, none⟩ = some (.int .i64 an.code) ∧ x.frozen? ⟨D + 2, 0, none⟩ = false ∧ x.cell? ⟨D + 2, 1, none⟩ = some (.int .i64 an.r.code) ∧ x.cell? ⟨D + 2, 3, none⟩ = some vo ∧ x.frozen? ⟨D + 2, 3, none⟩ = false := by
  have a0 := h.r2 0 _ rfl
  have a1 := h.r2 1 (.int .i64 an.r.code) rfl
  have a3 := h.r2 3 vo rfl
  have f0 := (h.t2 0 (by omega)).2
  have f3 := (h.t2 3 (by omega)).2
  rw [Nat.zero_add] at a0 a1 a3 f0 f3
  exact ⟨a0, f0, a1, a3, f3⟩
theorem S1.one (h : S1 w b S D x P' S' an vo vr vs C) : ∀ u ∈ an.vals vo vr vs, u.oneCell' = true := by
  obtain ⟨_, _, e1⟩ := own_form h.rl.o
  obtain ⟨_, _, e2⟩ := own_form h.rl.q
  obtain ⟨_, _, e3⟩ := own_form h.rl.s
  exact An.one _ (by rw [e1]; rfl) (by rw [e2]; rfl) (by rw [e3]; rfl)
end
attribute [-simp] Try.isAgg70 Try.sizeOf70 Try.typeInfo70
attribute [local irreducible] rootP shaP
set_option linter.unusedSimpArgs false in
set_option maxRecDepth 100000 in
set_option maxHeartbeats 8000000 in
theorem step_t (w : World) (b : Nat) (P : Pr) (S : List Nat) (h : PP w b P S) (kd : Int) (a : Option Addr) (n cap : Nat) (ch pt gs ac tk am : Int) (hk : kd < 1 ∨ 7 < kd) :
    Calls Try.prog 22 #[.pointer (some ⟨b, 0, none⟩), .agg (opV kd a n cap ch pt gs ac tk am).toArray] w (StPost w b S P ⟨41, refR 0 (-1), msg0⟩) := by
  have HP := hide h
  unfold opV
  have d1 : (kd == 1) = false := by simp; omega
  have d2 : (kd == 2) = false := by simp; omega
  have d3 : (kd == 3) = false := by simp; omega
  have d4 : (kd == 4) = false := by simp; omega
  have d5 : (kd == 5) = false := by simp; omega
  have d6 : (kd == 6) = false := by simp; omega
  have d7 : (kd == 7) = false := by simp; omega
  clear hk
  have HS0 : Hid (S0 w (((w.alloc (.cells #[.int .i64 kd, .slice a n cap, .int .u8 ch, .int .i64 pt, .int .u64 gs, .int .u8 ac, .int .u8 tk, .int .u64 am] 33)).alloc (.cells Try.zeroCells70 70)).alloc (.cells (Try.zeroCells70.setIfInBounds 2 (.int .i64 (-1))) 70)) w.heap.size [.int .i64 kd, .slice a n cap, .int .u8 ch, .int .i64 pt, .int .u64 gs, .int .u8 ac, .int .u8 tk, .int .u64 am]) := s0_start w [.int .i64 kd, .slice a n cap, .int .u8 ch, .int .i64 pt, .int .u64 gs, .int .u8 ac, .int .u8 tk, .int .u64 am]
  clear h
  go_enter Try.func22, Try.ntmps22
  go_upto_region 3 with fail
  obtain ⟨D, hD⟩ : ∃ D, w.heap.size = D := ⟨_, rfl⟩
  have hD1 : w.heap.size + 1 = D + 1 := by rw [hD]
  simp only [hD] at HS0 ⊢
  simp only [show D + 1 + 1 = D + 2 from rfl] at HS0 ⊢
  have HD := hide hD
  clear hD hD1
  generalize ((w.alloc (.cells #[.int .i64 kd, .slice a n cap, .int .u8 ch, .int .i64 pt, .int .u64 gs, .int .u8 ac, .int .u8 tk, .int .u64 am] 33)).alloc (.cells Try.zeroCells70 70)).alloc (.cells (Try.zeroCells70.setIfInBounds 2 (.int .i64 (-1))) 70) = w3 at *
  have cl0 := HS0.out.cell (j := 0) rfl
  have cl1 := HS0.out.cell (j := 1) rfl
  have cl2 := HS0.out.cell (j := 2) rfl
  have cl3 := HS0.out.cell (j := 3) rfl
  have cl4 := HS0.out.cell (j := 4) rfl
  have cl5 := HS0.out.cell (j := 5) rfl
  have cl6 := HS0.out.cell (j := 6) rfl
  have cl7 := HS0.out.cell (j := 7) rfl
  have HS1 := hide (s1_of HS0.out HP.out)
  obtain ⟨c0, f0, -, -, -⟩ := HS1.out.c0
  go_upto_region 20 with fail
  have HS2 := hide (HS1.out.code 41)
  generalize w3.setCell ⟨D + 2, 0, none⟩ (.int .i64 41) = x at *
  clear cl0 cl1 cl2 cl3 cl4 cl5 cl6 cl7 c0 f0 HS1 HS0
  obtain ⟨F, hF⟩ : ∃ F, (⟨41, refR 0 (-1), msg0⟩ : An).vals nilS nilS nilS = F := ⟨_, rfl⟩
  have HFl : Hid (F.length = 112) := by rw [← hF]; exact An.len HS2.out.ok HS2.out.mo _ _ _
  have HF1 : Hid (∀ u ∈ F, u.oneCell' = true) := by rw [← hF]; exact HS2.out.one
  have HRG : Hid (x.rangeAt (D + 2) 0 F) := by rw [← hF]; exact HS2.out.r2
  have HT6 := hide HS2.out.t1
  have HFN : Hid (∀ y, Ex (fun j => j = D + 1) x y → StPost _ _ _ _ _ (.returned (.agg F.toArray)) y) := fun y ex => by rw [← hF]; exact HS2.out.fin ex
  clear hF
  go_upto_region 20 with fail
  go_wp2_with fail
  simp only [Try.isAgg70, Try.sizeOf70, Result.andThen, ↓reduceIte, ldC x (D + 2) 0 F 112 HFl.out HRG.out]
  rw [Oper.upon_value]
  go_wp2_with fail
  simp only [Try.sizeOf70, Result.andThen, HFl.out, ↓reduceIte, stC x (D + 1) 0 F (by rw [HFl.out]; exact HT6.out) HF1.out]
  rw [Oper.upon_skip]
  have HRZ := hide (World.rangeAt_setCells_same x (D + 1) 0 F (by rw [HFl.out]; exact HT6.out))
  have HPO := hide (HFN.out _ (Ex.sets (S := fun j => j = D + 1) rfl F 0 x (Ex.refl _ _)))
  generalize x.setCells (D + 1) 0 F = wz at *
  clear HFN HRG HT6
  go_wp2_with fail
  exact bodyPost_ret (v := .agg F.toArray) (res_cell Try.results22 rfl (run_loadVar_mid wz (D + 1) 0 70 F _ HRZ.out Try.underlying70 rfl (by rw [HFl.out]; exact Try.sz70))) rfl HPO.out
set_option linter.unusedSimpArgs false in
set_option maxRecDepth 100000 in
set_option maxHeartbeats 8000000 in
theorem step_i (w W : World) (b : Nat) (P : Pr) (S : List Nat) (h : PP w b P S) (hsm : PSm P) (hW : Below W.heap.size W w) (hWb : W.heap.size ≤ b) (hWS : ∀ k, k ∈ S → W.heap.size ≤ k) (a : Option Addr) (n cap : Nat) (L : Nat → Leg) (T : Nat → List Int) (hn : n ≤ 9223372036854775807) (hL : LegsAt W a n L) (hV : ordCode n L = 0 → ∀ i, i < n → LegV (legL (L i)) (L i).ch (T i)) (z : Nat) (hz : Bnd z P) (hzl : z ≤ 800000000000) (ch pt gs ac tk am : Int) :
    Calls Try.prog 22 #[.pointer (some ⟨b, 0, none⟩), .agg (opV 1 a n cap ch pt gs ac tk am).toArray] w fun e w' => ∃ v, StPost w b S (simS true P n L T) ⟨(simR P n L T v).code, simR P n L T v, msg0⟩ e w' := by
  have HIN := hide (fun (x : World) (k : Below w.heap.size w x) => include_any x W b P S (h.below k) hsm (lec hW k) hWb hWS a n cap L T hn hL hV z hz hzl)
  obtain ⟨PS, hPS⟩ : ∃ PS, simS true P n L T = PS := ⟨_, rfl⟩
  obtain ⟨RS, hRS⟩ : ∃ RS, simR P n L T = RS := ⟨_, rfl⟩
  rw [hPS, hRS] at HIN ⊢
  clear hsm hW hWb hWS hn hL hV hz hzl hPS hRS
  have HP := hide h
  unfold opV
  have HS0 : Hid (S0 w (((w.alloc (.cells #[.int .i64 1, .slice a n cap, .int .u8 ch, .int .i64 pt, .int .u64 gs, .int .u8 ac, .int .u8 tk, .int .u64 am] 33)).alloc (.cells Try.zeroCells70 70)).alloc (.cells (Try.zeroCells70.setIfInBounds 2 (.int .i64 (-1))) 70)) w.heap.size [.int .i64 1, .slice a n cap, .int .u8 ch, .int .i64 pt, .int .u64 gs, .int .u8 ac, .int .u8 tk, .int .u64 am]) := s0_start w [.int .i64 1, .slice a n cap, .int .u8 ch, .int .i64 pt, .int .u64 gs, .int .u8 ac, .int .u8 tk, .int .u64 am]
  clear h
  go_enter Try.func22, Try.ntmps22
  go_upto_region 3 with fail
  obtain ⟨D, hD⟩ : ∃ D, w.heap.size = D := ⟨_, rfl⟩
  have hD1 : w.heap.size + 1 = D + 1 := by rw [hD]
  simp only [hD] at HS0 ⊢
  simp only [show D + 1 + 1 = D + 2 from rfl] at HS0 ⊢
  have HD := hide hD
  clear hD hD1
  generalize ((w.alloc (.cells #[.int .i64 1, .slice a n cap, .int .u8 ch, .int .i64 pt, .int .u64 gs, .int .u8 ac, .int .u8 tk, .int .u64 am] 33)).alloc (.cells Try.zeroCells70 70)).alloc (.cells (Try.zeroCells70.setIfInBounds 2 (.int .i64 (-1))) 70) = w3 at *
  have cl0 := HS0.out.cell (j := 0) rfl
  have cl1 := HS0.out.cell (j := 1) rfl
  have cl2 := HS0.out.cell (j := 2) rfl
  have cl3 := HS0.out.cell (j := 3) rfl
  have cl4 := HS0.out.cell (j := 4) rfl
  have cl5 := HS0.out.cell (j := 5) rfl
  have cl6 := HS0.out.cell (j := 6) rfl
  have cl7 := HS0.out.cell (j := 7) rfl
  have HS1 := hide (s1_of HS0.out HP.out)
  go_upto_region 6 with fail
  go_wp2_with (go_at_call 28; refine (HIN.out w3 HS0.out.be).mono ?_; rintro e y ⟨v, vo, vr, vs, C, S', rfl, hrl, hok, hk, hp, hC⟩; have HRL := hide hrl; have HOK := hide hok; have HK := hide hk; have HPQ := hide hp; have HCQ := hide hC; obtain ⟨G, hG⟩ : ∃ G, (RS v).vals vo vr vs = G := ⟨_, rfl⟩; have hGl : G.length = 70 := (by rw [← hG]; exact Rs.len hok _ _ _); simp only [hG]; have HG := hide hG; clear hrl hok hk hp hC hG)
  have HCC : Hid (∀ k, k ∈ C → w.heap.size ≤ k ∧ k ∉ S' ∧ k ≠ D + 1 ∧ k ≠ D + 2 ∧ k ≠ b) := fun k hk => by
    have h1 := (HCQ.out k hk).1
    have h2 := HS0.out.sz
    have h3 := HS0.out.eD
    have h4 := HP.out.bl
    exact ⟨by omega, (HCQ.out k hk).2, by omega, by omega, by omega⟩
  have HS2 := hide (HS1.out.link HK.out HPQ.out)
  have HS3 := hide (HS2.out.res HRL.out HOK.out HCC.out)
  have HRo : Hid (∀ u ∈ (RS v).vals vo vr vs, u.oneCell' = true) := by
    obtain ⟨_, _, e1⟩ := own_form HRL.out.o
    obtain ⟨_, _, e2⟩ := own_form HRL.out.q
    obtain ⟨_, _, e3⟩ := own_form HRL.out.s
    exact Rs.one _ (by rw [e1]; rfl) (by rw [e2]; rfl) (by rw [e3]; rfl)
  have HTT := hide (there_part HS2.out.t2 (o := 1) (m := 70) (by omega))
  rw [HG.out] at HS3 HRo
  simp only [Result.andThen, stC y (D + 2) 1 G (by rw [hGl]; exact HTT.out) HRo.out]
  rw [Oper.upon_skip]
  generalize y.setCells (D + 2) 1 G = y2 at *
  clear HS2 HS1 HS0 HRL HOK HK HPQ HCQ HIN HTT
  clear cl0 cl1 cl2 cl3 cl4 cl5 cl6 cl7
  obtain ⟨c0, f0, c1, -, -⟩ := HS3.out.c0
  have c0' : y2.cell? ⟨D + 2, 0, none⟩ = some (.int .i64 0) := c0
  have c1' : y2.cell? ⟨D + 2, 1, none⟩ = some (.int .i64 (RS v).code) := c1
  clear c0 c1
  have HS4 := hide (HS3.out.code (RS v).code)
  go_upto_region 20 with fail
  generalize y2.setCell ⟨D + 2, 0, none⟩ (.int .i64 (RS v).code) = y3 at *
  clear HS3 c0' c1' f0
  obtain ⟨F, hF⟩ : ∃ F, (⟨(RS v).code, RS v, msg0⟩ : An).vals vo vr vs = F := ⟨_, rfl⟩
  have HFl : Hid (F.length = 112) := by rw [← hF]; exact An.len HS4.out.ok HS4.out.mo _ _ _
  have HF1 : Hid (∀ u ∈ F, u.oneCell' = true) := by rw [← hF]; exact HS4.out.one
  have HRG : Hid (y3.rangeAt (D + 2) 0 F) := by rw [← hF]; exact HS4.out.r2
  have HT6 := hide HS4.out.t1
  have HFN : Hid (∀ y, Ex (fun j => j = D + 1) y3 y → StPost _ _ _ _ _ (.returned (.agg F.toArray)) y) := fun y ex => by rw [← hF]; exact HS4.out.fin ex
  clear hF
  go_upto_region 20 with fail
  go_wp2_with fail
  simp only [Try.isAgg70, Try.sizeOf70, Result.andThen, ↓reduceIte, ldC y3 (D + 2) 0 F 112 HFl.out HRG.out]
  rw [Oper.upon_value]
  go_wp2_with fail
  simp only [Try.sizeOf70, Result.andThen, HFl.out, ↓reduceIte, stC y3 (D + 1) 0 F (by rw [HFl.out]; exact HT6.out) HF1.out]
  rw [Oper.upon_skip]
  have HRZ := hide (World.rangeAt_setCells_same y3 (D + 1) 0 F (by rw [HFl.out]; exact HT6.out))
  have HPO := hide (HFN.out _ (Ex.sets (S := fun j => j = D + 1) rfl F 0 y3 (Ex.refl _ _)))
  generalize y3.setCells (D + 1) 0 F = wz at *
  clear HFN HRG HT6
  go_wp2_with fail
  exact bodyPost_ret (v := .agg F.toArray) (res_cell Try.results22 rfl (run_loadVar_mid wz (D + 1) 0 70 F _ HRZ.out Try.underlying70 rfl (by rw [HFl.out]; exact Try.sz70))) rfl ⟨v, HPO.out⟩
set_option linter.unusedSimpArgs false in
set_option maxRecDepth 100000 in
set_option maxHeartbeats 8000000 in
theorem step_y (w W : World) (b : Nat) (P : Pr) (S : List Nat) (h : PP w b P S) (hsm : PSm P) (hW : Below W.heap.size W w) (hWb : W.heap.size ≤ b) (hWS : ∀ k, k ∈ S → W.heap.size ≤ k) (a : Option Addr) (n cap : Nat) (L : Nat → Leg) (T : Nat → List Int) (hn : n ≤ 9223372036854775807) (hL : LegsAt W a n L) (hV : ordCode n L = 0 → ∀ i, i < n → LegV (legL (L i)) (L i).ch (T i)) (z : Nat) (hz : Bnd z P) (hzl : z ≤ 800000000000) (ch pt gs ac tk am : Int) :
    Calls Try.prog 22 #[.pointer (some ⟨b, 0, none⟩), .agg (opV 2 a n cap ch pt gs ac tk am).toArray] w fun e w' => ∃ v, StPost w b S (simS false P n L T) ⟨(simR P n L T v).code, simR P n L T v, msg0⟩ e w' := by
  have HIN := hide (fun (x : World) (k : Below w.heap.size w x) => try_any x W b P S (h.below k) hsm (lec hW k) hWb hWS a n cap L T hn hL hV z hz hzl)
  obtain ⟨PS, hPS⟩ : ∃ PS, simS false P n L T = PS := ⟨_, rfl⟩
  obtain ⟨RS, hRS⟩ : ∃ RS, simR P n L T = RS := ⟨_, rfl⟩
  rw [hPS, hRS] at HIN ⊢
  clear hsm hW hWb hWS hn hL hV hz hzl hPS hRS
  have HP := hide h
  unfold opV
  have HS0 : Hid (S0 w (((w.alloc (.cells #[.int .i64 2, .slice a n cap, .int .u8 ch, .int .i64 pt, .int .u64 gs, .int .u8 ac, .int .u8 tk, .int .u64 am] 33)).alloc (.cells Try.zeroCells70 70)).alloc (.cells (Try.zeroCells70.setIfInBounds 2 (.int .i64 (-1))) 70)) w.heap.size [.int .i64 2, .slice a n cap, .int .u8 ch, .int .i64 pt, .int .u64 gs, .int .u8 ac, .int .u8 tk, .int .u64 am]) := s0_start w [.int .i64 2, .slice a n cap, .int .u8 ch, .int .i64 pt, .int .u64 gs, .int .u8 ac, .int .u8 tk, .int .u64 am]
  clear h
  go_enter Try.func22, Try.ntmps22
  go_upto_region 3 with fail
  obtain ⟨D, hD⟩ : ∃ D, w.heap.size = D := ⟨_, rfl⟩
  have hD1 : w.heap.size + 1 = D + 1 := by rw [hD]
  simp only [hD] at HS0 ⊢
  simp only [show D + 1 + 1 = D + 2 from rfl] at HS0 ⊢
  have HD := hide hD
  clear hD hD1
  generalize ((w.alloc (.cells #[.int .i64 2, .slice a n cap, .int .u8 ch, .int .i64 pt, .int .u64 gs, .int .u8 ac, .int .u8 tk, .int .u64 am] 33)).alloc (.cells Try.zeroCells70 70)).alloc (.cells (Try.zeroCells70.setIfInBounds 2 (.int .i64 (-1))) 70) = w3 at *
  have cl0 := HS0.out.cell (j := 0) rfl
  have cl1 := HS0.out.cell (j := 1) rfl
  have cl2 := HS0.out.cell (j := 2) rfl
  have cl3 := HS0.out.cell (j := 3) rfl
  have cl4 := HS0.out.cell (j := 4) rfl
  have cl5 := HS0.out.cell (j := 5) rfl
  have cl6 := HS0.out.cell (j := 6) rfl
  have cl7 := HS0.out.cell (j := 7) rfl
  have HS1 := hide (s1_of HS0.out HP.out)
  go_upto_region 9 with fail
  go_wp2_with (go_at_call 34; refine (HIN.out w3 HS0.out.be).mono ?_; rintro e y ⟨v, vo, vr, vs, C, S', rfl, hrl, hok, hk, hp, hC⟩; have HRL := hide hrl; have HOK := hide hok; have HK := hide hk; have HPQ := hide hp; have HCQ := hide hC; obtain ⟨G, hG⟩ : ∃ G, (RS v).vals vo vr vs = G := ⟨_, rfl⟩; have hGl : G.length = 70 := (by rw [← hG]; exact Rs.len hok _ _ _); simp only [hG]; have HG := hide hG; clear hrl hok hk hp hC hG)
  have HCC : Hid (∀ k, k ∈ C → w.heap.size ≤ k ∧ k ∉ S' ∧ k ≠ D + 1 ∧ k ≠ D + 2 ∧ k ≠ b) := fun k hk => by
    have h1 := (HCQ.out k hk).1
    have h2 := HS0.out.sz
    have h3 := HS0.out.eD
    have h4 := HP.out.bl
    exact ⟨by omega, (HCQ.out k hk).2, by omega, by omega, by omega⟩
  have HS2 := hide (HS1.out.link HK.out HPQ.out)
  have HS3 := hide (HS2.out.res HRL.out HOK.out HCC.out)
  have HRo : Hid (∀ u ∈ (RS v).vals vo vr vs, u.oneCell' = true) := by
    obtain ⟨_, _, e1⟩ := own_form HRL.out.o
    obtain ⟨_, _, e2⟩ := own_form HRL.out.q
    obtain ⟨_, _, e3⟩ := own_form HRL.out.s
    exact Rs.one _ (by rw [e1]; rfl) (by rw [e2]; rfl) (by rw [e3]; rfl)
  have HTT := hide (there_part HS2.out.t2 (o := 1) (m := 70) (by omega))
  rw [HG.out] at HS3 HRo
  simp only [Result.andThen, stC y (D + 2) 1 G (by rw [hGl]; exact HTT.out) HRo.out]
  rw [Oper.upon_skip]
  generalize y.setCells (D + 2) 1 G = y2 at *
  clear HS2 HS1 HS0 HRL HOK HK HPQ HCQ HIN HTT
  clear cl0 cl1 cl2 cl3 cl4 cl5 cl6 cl7
  obtain ⟨c0, f0, c1, -, -⟩ := HS3.out.c0
  have c0' : y2.cell? ⟨D + 2, 0, none⟩ = some (.int .i64 0) := c0
  have c1' : y2.cell? ⟨D + 2, 1, none⟩ = some (.int .i64 (RS v).code) := c1
  clear c0 c1
  have HS4 := hide (HS3.out.code (RS v).code)
  go_upto_region 20 with fail
  generalize y2.setCell ⟨D + 2, 0, none⟩ (.int .i64 (RS v).code) = y3 at *
  clear HS3 c0' c1' f0
  obtain ⟨F, hF⟩ : ∃ F, (⟨(RS v).code, RS v, msg0⟩ : An).vals vo vr vs = F := ⟨_, rfl⟩
  have HFl : Hid (F.length = 112) := by rw [← hF]; exact An.len HS4.out.ok HS4.out.mo _ _ _
  have HF1 : Hid (∀ u ∈ F, u.oneCell' = true) := by rw [← hF]; exact HS4.out.one
  have HRG : Hid (y3.rangeAt (D + 2) 0 F) := by rw [← hF]; exact HS4.out.r2
  have HT6 := hide HS4.out.t1
  have HFN : Hid (∀ y, Ex (fun j => j = D + 1) y3 y → StPost _ _ _ _ _ (.returned (.agg F.toArray)) y) := fun y ex => by rw [← hF]; exact HS4.out.fin ex
  clear hF
  go_upto_region 20 with fail
  go_wp2_with fail
  simp only [Try.isAgg70, Try.sizeOf70, Result.andThen, ↓reduceIte, ldC y3 (D + 2) 0 F 112 HFl.out HRG.out]
  rw [Oper.upon_value]
  go_wp2_with fail
  simp only [Try.sizeOf70, Result.andThen, HFl.out, ↓reduceIte, stC y3 (D + 1) 0 F (by rw [HFl.out]; exact HT6.out) HF1.out]
  rw [Oper.upon_skip]
  have HRZ := hide (World.rangeAt_setCells_same y3 (D + 1) 0 F (by rw [HFl.out]; exact HT6.out))
  have HPO := hide (HFN.out _ (Ex.sets (S := fun j => j = D + 1) rfl F 0 y3 (Ex.refl _ _)))
  generalize y3.setCells (D + 1) 0 F = wz at *
  clear HFN HRG HT6
  go_wp2_with fail
  exact bodyPost_ret (v := .agg F.toArray) (res_cell Try.results22 rfl (run_loadVar_mid wz (D + 1) 0 70 F _ HRZ.out Try.underlying70 rfl (by rw [HFl.out]; exact Try.sz70))) rfl ⟨v, HPO.out⟩
end Go.Proofs.Qxb6500784a
