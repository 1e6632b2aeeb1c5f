import Derived.Test.Qxb6500774aSa1
namespace Go.Proofs.Qxb6500774a
open Go.RowKit
set_option linter.unusedVariables false
set_option linter.unusedSimpArgs false

/-! ### Raw statements: lists of statements or of arms -/
inductive Y where
  | nil
  | st (k : Int) (x : ByteArray) (ex : Z) (ar el bo : Y) (ag co : Z) (l c : Int) (r : Y)
  | am (k : Int) (op : ByteArray) (v : Int) (nm : ByteArray) (kd : Z) (l c : Int) (bo r : Y)
def Y.len : Y → Nat
  | .nil => 0
  | .st _ _ _ _ _ _ _ _ _ _ r => r.len + 1
  | .am _ _ _ _ _ _ _ _ r => r.len + 1
def sY (pl : Bool) : Y → Y → Bool
  | .nil, .nil => true
  | .st k x ex ar el bo ag co l c r, .st k' x' ex' ar' el' bo' ag' co' l' c' r' => (((!pl || (l == l' && c == c')) && ((k == k') && eqB x x' && sZ pl ex ex' && sY pl el el' && sY pl bo bo') && sY pl ar ar' && sZ pl ag ag' && sZ pl co co')) && sY pl r r'
  | .am k op v nm kd l c bo r, .am k' op' v' nm' kd' l' c' bo' r' => ((hdZ pl ⟨k, op, v, nm, none, 0, 0, l, c⟩ ⟨k', op', v', nm', none, 0, 0, l', c'⟩ && sZ pl kd kd') && sY pl bo bo') && sY pl r r'
  | _, _ => false
def YT (w : World) : Bool → Y → List (List Value) → Prop
  | _, .nil, F => F = []
  | b, .st k x ex ar el bo ag co l c r, F => b = false ∧ ∃ f F' FX FA FE FB FG FC, F = spL f :: F' ∧ (f.k = k ∧ f.x = x ∧ f.li = l ∧ f.cl = c) ∧ (RW w ND FX f.ex ∧ ZT w false ex FX) ∧ (RW w ND FA f.ar ∧ YT w true ar FA) ∧ (RW w ND FE f.el ∧ YT w false el FE) ∧ (RW w ND FB f.bo ∧ YT w false bo FB) ∧ (RW w ND FG f.ag ∧ ZT w true ag FG) ∧ (RW w ND FC f.co ∧ ZT w true co FC) ∧ YT w b r F'
  | b, .am k op v nm kd l c bo r, F => b = true ∧ ∃ f vb F' FK FB, F = aL (f, vb) :: F' ∧ (f.k = k ∧ f.x = op ∧ f.n = v ∧ f.m = nm ∧ f.li = l ∧ f.co = c) ∧ (RW w ND FK ⟨f.q, f.ql, f.qc⟩ ∧ ZT w false kd FK) ∧ (RW w ND FB vb ∧ YT w false bo FB) ∧ YT w b r F'
theorem YT.low {w w' : World} (ex : Ex (fun _ => False) w w') : ∀ {A : Y} {b : Bool} {F : List (List Value)}, YT w b A F → YT w' b A F := by
  intro A
  induction A with
  | nil => intro b F h; exact h
  | st k x e ar el bo ag co l c r ih1 ih2 ih3 ih =>
    rintro b F ⟨hb, f, F', FX, FA, FE, FB, FG, FC, h1, h2, h3, h4, h5, h6, h7, h8, h9⟩
    exact ⟨hb, f, F', FX, FA, FE, FB, FG, FC, h1, h2, ⟨h3.1.low ex, h3.2.low ex⟩, ⟨h4.1.low ex, ih1 h4.2⟩, ⟨h5.1.low ex, ih2 h5.2⟩, ⟨h6.1.low ex, ih3 h6.2⟩, ⟨h7.1.low ex, h7.2.low ex⟩, ⟨h8.1.low ex, h8.2.low ex⟩, ih h9⟩
  | am k op v nm kd l c bo r ih1 ih =>
    rintro b F ⟨hb, f, vb, F', FK, FB, h1, h2, h3, h4, h5⟩
    exact ⟨hb, f, vb, F', FK, FB, h1, h2, ⟨h3.1.low ex, h3.2.low ex⟩, ⟨h4.1.low ex, ih1 h4.2⟩, ih h5⟩
theorem YT.len {w : World} : ∀ {A : Y} {b : Bool} {F : List (List Value)}, YT w b A F → F.length = A.len ∧ ∀ V ∈ F, V.length = if b = true then 8 else 10 := by
  intro A
  induction A with
  | nil => rintro b F rfl; exact ⟨rfl, fun V h => by cases h⟩
  | st k x e ar el bo ag co l c r ih1 ih2 ih3 ih =>
    rintro b F ⟨hb, f, F', FX, FA, FE, FB, FG, FC, rfl, h2, h3, h4, h5, h6, h7, h8, h9⟩
    have := ih h9
    refine ⟨by show _ + 1 = _ + 1; rw [this.1], fun V h => ?_⟩
    rcases List.mem_cons.1 h with rfl | h
    · rw [hb]; rfl
    · exact this.2 V h
  | am k op v nm kd l c bo r ih1 ih =>
    rintro b F ⟨hb, f, vb, F', FK, FB, rfl, h2, h3, h4, h5⟩
    have := ih h5
    refine ⟨by show _ + 1 = _ + 1; rw [this.1], fun V h => ?_⟩
    rcases List.mem_cons.1 h with rfl | h
    · rw [hb]; rfl
    · exact this.2 V h
theorem sY_len {pl : Bool} : ∀ {A B : Y}, sY pl A B = true → A.len = B.len := by
  intro A
  induction A with
  | nil =>
    intro B h
    cases B with
    | nil => rfl
    | st k x e ar el bo ag co l c r => cases h
    | am k op v nm kd l c bo r => cases h
  | st k x e ar el bo ag co l c r ih1 ih2 ih3 ih =>
    intro B h
    cases B with
    | nil => cases h
    | am k op v nm kd l c bo r => cases h
    | st k' x' e' ar' el' bo' ag' co' l' c' r' =>
      simp only [sY, Bool.and_eq_true] at h
      show _ + 1 = _ + 1
      rw [ih h.2]
  | am k op v nm kd l c bo r ih1 ih =>
    intro B h
    cases B with
    | nil => cases h
    | st k x e ar el bo ag co l c r => cases h
    | am k' op' v' nm' kd' l' c' bo' r' =>
      simp only [sY, Bool.and_eq_true] at h
      show _ + 1 = _ + 1
      rw [ih h.2]
theorem sZ_len1 {pl : Bool} {A B : Z} (h : sZ pl A B = true) : A.len = B.len := by
  apply Classical.byContradiction
  intro z
  rw [sZ_len z] at h
  cases h
/-- SameStmts says yes -/
def SYS (pl : Bool) (A : Y) : Prop := ∀ (w : World) (B : Y) (va vb : SLc) (FA FB : List (List Value)), RW w ND FA va → YT w false A FA → RW w ND FB vb → YT w false B FB → sY pl A B = true → Calls Try.prog 41 #[slV va, slV vb, .bool pl] w (RdB w true)
/-- the arms' bodies, the lists within a statement -/
def YOK (pl : Bool) : Y → Prop
  | .nil => True
  | .st _ _ _ ar el bo _ _ _ _ r => YOK pl ar ∧ SYS pl el ∧ SYS pl bo ∧ YOK pl r
  | .am _ _ _ _ _ _ _ bo r => SYS pl bo ∧ YOK pl r
/-- two pairs of elements of two arms' lists -/
structure AmP (w : World) (pl : Bool) (y z : XP × SLc) : Prop where
  x : ∀ W, Ex (fun _ => False) w W → Calls Try.prog 42 #[xV y.1, xV z.1, .bool pl] W (RdB W true)
  s : ∀ W, Ex (fun _ => False) w W → Calls Try.prog 41 #[slV y.2, slV z.2, .bool pl] W (RdB W true)
structure AgP (w : World) (pl : Bool) (y z : ByteArray × XP) : Prop where
  n : (y.1.toList == z.1.toList) = true
  x : ∀ W, Ex (fun _ => False) w W → Calls Try.prog 42 #[xV y.2, xV z.2, .bool pl] W (RdB W true)
theorem am_pairs {w : World} {pl : Bool} : ∀ (A B : Y) (FA FB : List (List Value)), YOK pl A → YT w true A FA → YT w true B FB → sY pl A B = true → ∃ LA LB : List (XP × SLc), FA = LA.map aL ∧ FB = LB.map aL ∧ LA.length = LB.length ∧ ∀ (i : Nat) y z, LA[i]? = some y → LB[i]? = some z → AmP w pl y z
  | .nil, .nil, FA, FB, _, h1, h2, _ => ⟨[], [], h1, h2, rfl, fun i y z h => by simp at h⟩
  | .nil, .st .., _, _, _, _, _, h => by cases h
  | .nil, .am .., _, _, _, _, _, h => by cases h
  | .st .., _, _, _, _, h, _, _ => by cases h.1
  | .am .., .nil, _, _, _, _, _, h => by cases h
  | .am .., .st .., _, _, _, _, _, h => by cases h
  | .am k op v nm kd l c bo r, .am k' op' v' nm' kd' l' c' bo' r', FA, FB, hk, h1, h2, h => by
    obtain ⟨_, f, vb, F', FK, FBo, rfl, ⟨rfl, rfl, rfl, rfl, rfl, rfl⟩, a3, a4, a5⟩ := h1
    obtain ⟨_, g, vb', G', GK, GBo, rfl, ⟨rfl, rfl, rfl, rfl, rfl, rfl⟩, b3, b4, b5⟩ := h2
    simp only [sY, Bool.and_eq_true] at h
    obtain ⟨LA, LB, c1, c2, c3, c4⟩ := am_pairs r r' F' G' hk.2 a5 b5 h.2
    refine ⟨(f, vb) :: LA, (g, vb') :: LB, by rw [c1]; rfl, by rw [c2]; rfl, by simp [c3], fun i y z hy hz => ?_⟩
    cases i with
    | zero =>
      simp at hy hz
      subst hy hz
      refine ⟨fun W hW => ?_, fun W hW => hk.1 W bo' vb vb' FBo GBo (a4.1.low hW) (a4.2.low hW) (b4.1.low hW) (b4.2.low hW) h.1.2⟩
      have := sameExpr_any kd W kd' pl f g FK GK (a3.1.low hW) (a3.2.low hW) (b3.1.low hW) (b3.2.low hW)
      rw [hdZ_pl, h.1.1.1, h.1.1.2] at this
      exact this
    | succ i => exact c4 i y z (by simpa using hy) (by simpa using hz)
theorem ag_pairs {w : World} {pl : Bool} : ∀ (A B : Z) (FA FB : List (List Value)), ZT w true A FA → ZT w true B FB → sZ pl A B = true → ∃ LA LB : List (ByteArray × XP), FA = LA.map gL ∧ FB = LB.map gL ∧ LA.length = LB.length ∧ ∀ (i : Nat) y z, LA[i]? = some y → LB[i]? = some z → AgP w pl y z
  | .nil, .nil, FA, FB, h1, h2, _ => ⟨[], [], h1, h2, rfl, fun i y z h => by simp at h⟩
  | .nil, .ex .., _, _, _, _, h => by cases h
  | .ex .., .nil, _, _, _, _, h => by cases h
  | .ex x k op v nm kd l c r, .ex x' k' op' v' nm' kd' l' c' r', FA, FB, h1, h2, h => by
    obtain ⟨sl, FK, F', rfl, _, a3, a4, a5⟩ := h1
    obtain ⟨sl', GK, G', rfl, _, b3, b4, b5⟩ := h2
    simp only [sZ, Bool.and_eq_true] at h
    obtain ⟨LA, LB, c1, c2, c3, c4⟩ := ag_pairs r r' F' G' a5 b5 h.2
    refine ⟨(x, ⟨k, op, v, nm, sl.q, sl.n, sl.c, l, c⟩) :: LA, (x', ⟨k', op', v', nm', sl'.q, sl'.n, sl'.c, l', c'⟩) :: LB, by rw [c1]; rfl, by rw [c2]; rfl, by simp [c3], fun i y z hy hz => ?_⟩
    cases i with
    | zero =>
      simp at hy hz
      subst hy hz
      refine ⟨h.1.1, fun W hW => ?_⟩
      have := sameExpr_any kd W kd' pl ⟨k, op, v, nm, sl.q, sl.n, sl.c, l, c⟩ ⟨k', op', v', nm', sl'.q, sl'.n, sl'.c, l', c'⟩ FK GK (a3.low hW) (a4.low hW) (b3.low hW) (b4.low hW)
      rw [hdZ_pl, h.1.2.1, h.1.2.2] at this
      exact this
    | succ i => exact c4 i y z (by simpa using hy) (by simpa using hz)
/-- two statements that are the same -/
structure SmP (w : World) (pl : Bool) (f g : SP) : Prop where
  lc : pl = true → f.li = g.li ∧ f.cl = g.cl
  k : f.k = g.k
  x : (f.x.toList == g.x.toList) = true
  ex : ∀ W, Ex (fun _ => False) w W → Calls Try.prog 40 #[slV f.ex, slV g.ex, .bool pl] W (RdB W true)
  el : ∀ W, Ex (fun _ => False) w W → Calls Try.prog 41 #[slV f.el, slV g.el, .bool pl] W (RdB W true)
  bo : ∀ W, Ex (fun _ => False) w W → Calls Try.prog 41 #[slV f.bo, slV g.bo, .bool pl] W (RdB W true)
  ar : ∃ LA LB : List (XP × SLc), RW w ND (LA.map aL) f.ar ∧ RW w ND (LB.map aL) g.ar ∧ LA.length = LB.length ∧ ∀ (i : Nat) y z, LA[i]? = some y → LB[i]? = some z → AmP w pl y z
  ag : ∃ LA LB : List (ByteArray × XP), RW w ND (LA.map gL) f.ag ∧ RW w ND (LB.map gL) g.ag ∧ LA.length = LB.length ∧ ∀ (i : Nat) y z, LA[i]? = some y → LB[i]? = some z → AgP w pl y z
  co : ∃ LA LB : List (ByteArray × XP), RW w ND (LA.map gL) f.co ∧ RW w ND (LB.map gL) g.co ∧ LA.length = LB.length ∧ ∀ (i : Nat) y z, LA[i]? = some y → LB[i]? = some z → AgP w pl y z
theorem st_pairs {w : World} {pl : Bool} : ∀ (A B : Y) (FA FB : List (List Value)), YOK pl A → YT w false A FA → YT w false B FB → sY pl A B = true → ∃ LA LB : List SP, FA = LA.map spL ∧ FB = LB.map spL ∧ LA.length = LB.length ∧ ∀ (i : Nat) y z, LA[i]? = some y → LB[i]? = some z → SmP w pl y z
  | .nil, .nil, FA, FB, _, h1, h2, _ => ⟨[], [], h1, h2, rfl, fun i y z h => by simp at h⟩
  | .nil, .st .., _, _, _, _, _, h => by cases h
  | .nil, .am .., _, _, _, _, _, h => by cases h
  | .am .., _, _, _, _, h, _, _ => by cases h.1
  | .st .., .nil, _, _, _, _, _, h => by cases h
  | .st .., .am .., _, _, _, _, _, h => by cases h
  | .st k x e ar el bo ag co l c r, .st k' x' e' ar' el' bo' ag' co' l' c' r', FA, FB, hk, h1, h2, h => by
    obtain ⟨_, f, F', FX, FR, FE, FBo, FG, FC, rfl, ⟨rfl, rfl, rfl, rfl⟩, a3, a4, a5, a6, a7, a8, a9⟩ := h1
    obtain ⟨_, g, G', GX, GR, GE, GBo, GG, GC, rfl, ⟨rfl, rfl, rfl, rfl⟩, b3, b4, b5, b6, b7, b8, b9⟩ := h2
    simp only [sY, Bool.and_eq_true] at h
    obtain ⟨⟨⟨⟨⟨hlc, hmid⟩, har⟩, hag⟩, hco⟩, hr⟩ := h
    obtain ⟨⟨⟨⟨hkk, hx⟩, hex⟩, hel⟩, hbo⟩ := hmid
    obtain ⟨LA, LB, c1, c2, c3, c4⟩ := st_pairs r r' F' G' hk.2.2.2 a9 b9 hr
    refine ⟨f :: LA, g :: LB, by rw [c1]; rfl, by rw [c2]; rfl, by simp [c3], fun i y z hy hz => ?_⟩
    cases i with
    | succ i => exact c4 i y z (by simpa using hy) (by simpa using hz)
    | zero =>
      simp at hy hz
      subst hy hz
      refine ⟨?_, by simpa using hkk, hx, fun W hW => ?_, fun W hW => hk.2.1 W el' _ _ FE GE (a5.1.low hW) (a5.2.low hW) (b5.1.low hW) (b5.2.low hW) hel, fun W hW => hk.2.2.1 W bo' _ _ FBo GBo (a6.1.low hW) (a6.2.low hW) (b6.1.low hW) (b6.2.low hW) hbo, ?_, ?_, ?_⟩
      · intro hp
        rw [hp] at hlc
        simpa using hlc
      · have := sameExprs_any e W e' pl _ _ FX GX (a3.1.low hW) (a3.2.low hW) (b3.1.low hW) (b3.2.low hW)
        rw [hex] at this
        exact this
      · obtain ⟨L1, L2, d1, d2, d3, d4⟩ := am_pairs ar ar' FR GR hk.1 a4.2 b4.2 har
        exact ⟨L1, L2, by rw [← d1]; exact a4.1, by rw [← d2]; exact b4.1, d3, d4⟩
      · obtain ⟨L1, L2, d1, d2, d3, d4⟩ := ag_pairs ag ag' FG GG a7.2 b7.2 hag
        exact ⟨L1, L2, by rw [← d1]; exact a7.1, by rw [← d2]; exact b7.1, d3, d4⟩
      · obtain ⟨L1, L2, d1, d2, d3, d4⟩ := ag_pairs co co' FC GC a8.2 b8.2 hco
        exact ⟨L1, L2, by rw [← d1]; exact a8.1, by rw [← d2]; exact b8.1, d3, d4⟩
theorem SmP.low {w w' : World} {pl : Bool} {f g : SP} (h : SmP w pl f g) (ex : Ex (fun _ => False) w w') : SmP w' pl f g := by
  refine ⟨h.lc, h.k, h.x, fun W hW => h.ex W (ex.trans hW), fun W hW => h.el W (ex.trans hW), fun W hW => h.bo W (ex.trans hW), ?_, ?_, ?_⟩
  · obtain ⟨LA, LB, a1, a2, a3, a4⟩ := h.ar
    exact ⟨LA, LB, a1.low ex, a2.low ex, a3, fun i y z hy hz => ⟨fun W hW => (a4 i y z hy hz).x W (ex.trans hW), fun W hW => (a4 i y z hy hz).s W (ex.trans hW)⟩⟩
  · obtain ⟨LA, LB, a1, a2, a3, a4⟩ := h.ag
    exact ⟨LA, LB, a1.low ex, a2.low ex, a3, fun i y z hy hz => ⟨(a4 i y z hy hz).n, fun W hW => (a4 i y z hy hz).x W (ex.trans hW)⟩⟩
  · obtain ⟨LA, LB, a1, a2, a3, a4⟩ := h.co
    exact ⟨LA, LB, a1.low ex, a2.low ex, a3, fun i y z hy hz => ⟨(a4 i y z hy hz).n, fun W hW => (a4 i y z hy hz).x W (ex.trans hW)⟩⟩
def sp0 : SP := ⟨0, nb, nl, nl, nl, nl, nl, nl, 0, 0⟩
def set10 (w : World) (r : Nat) (f : SP) : World := ((((((((((w.setCell ⟨r, 0, none⟩ (.int .i64 f.k)).setCell ⟨r, 1, none⟩ (.string f.x)).setCell ⟨r, 2, none⟩ (.slice f.ex.q f.ex.n f.ex.c)).setCell ⟨r, 3, none⟩ (.slice f.ar.q f.ar.n f.ar.c)).setCell ⟨r, 4, none⟩ (.slice f.el.q f.el.n f.el.c)).setCell ⟨r, 5, none⟩ (.slice f.bo.q f.bo.n f.bo.c)).setCell ⟨r, 6, none⟩ (.slice f.ag.q f.ag.n f.ag.c)).setCell ⟨r, 7, none⟩ (.slice f.co.q f.co.n f.co.c)).setCell ⟨r, 8, none⟩ (.int .i64 f.li)).setCell ⟨r, 9, none⟩ (.int .i64 f.cl))
theorem sk_s10 {w : World} {r : Nat} {f g : SP} (h : SK w r f) : SK (set10 w r g) r g := by
  unfold set10
  refine ⟨?_, ?_, ?_, ?_, ?_, ?_, ?_, ?_, ?_, ?_, fun j => by simp only [set_frozen]; exact h.fz j⟩
  all_goals simp [go_sem, h.c0, h.c1, h.c2, h.c3, h.c4, h.c5, h.c6, h.c7, h.c8, h.c9]
theorem ex_set10 {w0 w : World} {r : Nat} {g : SP} (e : Ex (fun _ => False) w0 w) (hr : w0.heap.size ≤ r) : Ex (fun _ => False) w0 (set10 w r g) := by
  unfold set10
  exact (((((((((e.setNew (p := r) (j := 0) hr _).setNew (p := r) (j := 1) hr _).setNew (p := r) (j := 2) hr _).setNew (p := r) (j := 3) hr _).setNew (p := r) (j := 4) hr _).setNew (p := r) (j := 5) hr _).setNew (p := r) (j := 6) hr _).setNew (p := r) (j := 7) hr _).setNew (p := r) (j := 8) hr _).setNew (p := r) (j := 9) hr _
theorem sk_o10 {w : World} {r r' : Nat} {f g : SP} (h : SK w r f) (hne : r ≠ r') : SK (set10 w r' g) r f := by
  have e : Ex (fun k => k = r') w (set10 w r' g) := by
    unfold set10
    exact ((((((((((Ex.refl (fun k => k = r') w).set (p := r') (j := 0) rfl _).set (p := r') (j := 1) rfl _).set (p := r') (j := 2) rfl _).set (p := r') (j := 3) rfl _).set (p := r') (j := 4) rfl _).set (p := r') (j := 5) rfl _).set (p := r') (j := 6) rfl _).set (p := r') (j := 7) rfl _).set (p := r') (j := 8) rfl _).set (p := r') (j := 9) rfl _
  exact h.keep e hne
end Go.Proofs.Qxb6500774a
