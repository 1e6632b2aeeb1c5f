import Derived.Test.Qxb6500774aSb1
namespace Go.Proofs.Qxb6500774a
open Go.RowKit
set_option linter.unusedVariables false
set_option linter.unusedSimpArgs false

/-! ### Trees as raw trees -/
def E.fk : E → Int
  | .num _ _ _ => 0
  | .tim _ _ _ => 1
  | .bol _ _ _ => 2
  | .nm _ _ _ => 3
  | .fld _ _ _ _ => 4
  | .idx _ _ _ _ => 5
  | .un _ _ _ _ => 6
  | .bin _ _ _ _ _ => 7
def E.fo : E → ByteArray
  | .un op _ _ _ => op
  | .bin op _ _ _ _ => op
  | _ => nb
def E.fv : E → Int
  | .num v _ _ => v
  | .tim v _ _ => v
  | .bol v _ _ => v
  | _ => 0
def E.fn : E → ByteArray
  | .nm x _ _ => x
  | .fld _ x _ _ => x
  | _ => nb
def E.kd : E → Z
  | .fld e _ _ _ => .ex nb e.fk e.fo e.fv e.fn e.kd e.l e.c .nil
  | .idx e i _ _ => .ex nb e.fk e.fo e.fv e.fn e.kd e.l e.c (.ex nb i.fk i.fo i.fv i.fn i.kd i.l i.c .nil)
  | .un _ e _ _ => .ex nb e.fk e.fo e.fv e.fn e.kd e.l e.c .nil
  | .bin _ a b _ _ => .ex nb a.fk a.fo a.fv a.fn a.kd a.l a.c (.ex nb b.fk b.fo b.fv b.fn b.kd b.l b.c .nil)
  | _ => .nil
def ez (e : E) (x : ByteArray) (r : Z) : Z := .ex x e.fk e.fo e.fv e.fn e.kd e.l e.c r
structure IsX (w : World) (e : E) (f : XP) : Prop where
  k : f.k = e.fk
  x : f.x = e.fo
  n : f.n = e.fv
  m : f.m = e.fn
  l : f.li = e.l
  c : f.co = e.c
  kd : ∃ FK, RW w ND FK ⟨f.q, f.ql, f.qc⟩ ∧ ZT w false e.kd FK
theorem IsX.zt {w : World} {e : E} {f : XP} (h : IsX w e f) {b : Bool} {x : ByteArray} (hx : b = false → x = nb) {r : Z} {F : List (List Value)} (hr : ZT w b r F) : ZT w b (ez e x r) (((if b = true then [.string x] else []) ++ xL f) :: F) := by
  obtain ⟨FK, h1, h2⟩ := h.kd
  refine ⟨⟨f.q, f.ql, f.qc⟩, FK, F, ?_, hx, h1, h2, hr⟩
  rw [← h.k, ← h.x, ← h.n, ← h.m, ← h.l, ← h.c]
theorem rw1 {w : World} {g : Nat} {f : XP} (hg : g < w.heap.size ∧ ¬ ND g) (h : RC w g 0 f) : RW w ND [xL f] ⟨some ⟨g, 0, none⟩, 1, 1⟩ := ⟨rfl, ⟨Nat.le_refl _, (by show (1 : Nat) ≤ maxLen; decide)⟩, fun _ => ⟨g, rfl, hg, h.rv⟩⟩
theorem rw2 {w : World} {g : Nat} {f f2 : XP} (hg : g < w.heap.size ∧ ¬ ND g) (h : RC w g 0 f) (h2 : RC w g 7 f2) : RW w ND [xL f, xL f2] ⟨some ⟨g, 0, none⟩, 2, 2⟩ := ⟨rfl, ⟨Nat.le_refl _, (by show (2 : Nat) ≤ maxLen; decide)⟩, fun _ => ⟨g, rfl, hg, h.rv2 h2⟩⟩
theorem ET.isx {w : World} : ∀ {e : E} {f : XP}, ET w ND e f → IsX w e f
  | .num v l c, f, h => by rw [show f = _ from h]; exact ⟨rfl, rfl, rfl, rfl, rfl, rfl, [], RW.nil w ND, rfl⟩
  | .tim v l c, f, h => by rw [show f = _ from h]; exact ⟨rfl, rfl, rfl, rfl, rfl, rfl, [], RW.nil w ND, rfl⟩
  | .bol v l c, f, h => by rw [show f = _ from h]; exact ⟨rfl, rfl, rfl, rfl, rfl, rfl, [], RW.nil w ND, rfl⟩
  | .nm x l c, f, h => by rw [show f = _ from h]; exact ⟨rfl, rfl, rfl, rfl, rfl, rfl, [], RW.nil w ND, rfl⟩
  | .fld e x l c, f, h => by
    obtain ⟨g, f1, h1, h2, h3, h4⟩ := h
    have ih := ET.isx h4
    rw [h1]
    exact ⟨rfl, rfl, rfl, rfl, rfl, rfl, [xL f1], rw1 h2 h3, ih.zt (b := false) (fun _ => rfl) rfl⟩
  | .un op e l c, f, h => by
    obtain ⟨g, f1, h1, h2, h3, h4⟩ := h
    have ih := ET.isx h4
    rw [h1]
    exact ⟨rfl, rfl, rfl, rfl, rfl, rfl, [xL f1], rw1 h2 h3, ih.zt (b := false) (fun _ => rfl) rfl⟩
  | .idx e i l c, f, h => by
    obtain ⟨g, f1, f2, h1, h2, h3, h4, h5, h6⟩ := h
    have ih := ET.isx h5
    have ih2 := ET.isx h6
    rw [h1]
    exact ⟨rfl, rfl, rfl, rfl, rfl, rfl, [xL f1, xL f2], rw2 h2 h3 h4, ih.zt (b := false) (fun _ => rfl) (ih2.zt (b := false) (fun _ => rfl) rfl)⟩
  | .bin op a b l c, f, h => by
    obtain ⟨g, f1, f2, h1, h2, h3, h4, h5, h6⟩ := h
    have ih := ET.isx h5
    have ih2 := ET.isx h6
    rw [h1]
    exact ⟨rfl, rfl, rfl, rfl, rfl, rfl, [xL f1, xL f2], rw2 h2 h3 h4, ih.zt (b := false) (fun _ => rfl) (ih2.zt (b := false) (fun _ => rfl) rfl)⟩
/-- the same but for places -/
structure EqX (e e' : E) : Prop where
  k : e.fk = e'.fk
  x : e.fo = e'.fo
  n : e.fv = e'.fv
  m : e.fn = e'.fn
  kd : sZ false e.kd e'.kd = true
theorem EqX.sz {e e' : E} (h : EqX e e') (x : ByteArray) (r r' : Z) : sZ false (ez e x r) (ez e' x r') = sZ false r r' := by
  unfold ez
  simp only [sZ, hdZ]
  rw [h.k, h.x, h.n, h.m, h.kd, eqB_rfl, eqB_rfl, eqB_rfl]
  simp
theorem eqx_of : ∀ (e e' : E), e.er = e'.er → EqX e e'
  | .num v _ _, e', h => by cases e' <;> (simp only [E.er] at h; first | (injection h with h; subst h; exact ⟨rfl, rfl, rfl, rfl, rfl⟩) | cases h)
  | .tim v _ _, e', h => by cases e' <;> (simp only [E.er] at h; first | (injection h with h; subst h; exact ⟨rfl, rfl, rfl, rfl, rfl⟩) | cases h)
  | .bol v _ _, e', h => by cases e' <;> (simp only [E.er] at h; first | (injection h with h; subst h; exact ⟨rfl, rfl, rfl, rfl, rfl⟩) | cases h)
  | .nm v _ _, e', h => by cases e' <;> (simp only [E.er] at h; first | (injection h with h; subst h; exact ⟨rfl, rfl, rfl, rfl, rfl⟩) | cases h)
  | .fld e x l c, e', h => by
    cases e' with
    | fld e2 x2 l2 c2 =>
      simp only [E.er] at h
      injection h with h1 h2
      subst h2
      exact ⟨rfl, rfl, rfl, rfl, (eqx_of e e2 h1).sz nb .nil .nil⟩
    | _ => cases h
  | .un op e l c, e', h => by
    cases e' with
    | un op2 e2 l2 c2 =>
      simp only [E.er] at h
      injection h with h1 h2
      subst h1
      exact ⟨rfl, rfl, rfl, rfl, (eqx_of e e2 h2).sz nb .nil .nil⟩
    | _ => cases h
  | .idx e i l c, e', h => by
    cases e' with
    | idx e2 i2 l2 c2 =>
      simp only [E.er] at h
      injection h with h1 h2
      exact ⟨rfl, rfl, rfl, rfl, ((eqx_of e e2 h1).sz nb _ _).trans ((eqx_of i i2 h2).sz nb .nil .nil)⟩
    | _ => cases h
  | .bin op a b l c, e', h => by
    cases e' with
    | bin op2 a2 b2 l2 c2 =>
      simp only [E.er] at h
      injection h with h0 h1 h2
      subst h0
      exact ⟨rfl, rfl, rfl, rfl, ((eqx_of a a2 h1).sz nb _ _).trans ((eqx_of b b2 h2).sz nb .nil .nil)⟩
    | _ => cases h
/-- SameExpr of two trees that are the same but for places -/
theorem same_er {w : World} {e e' : E} {f g : XP} (h : ET w ND e f) (h' : ET w ND e' g) (he : e.er = e'.er) : Calls Try.prog 42 #[xV f, xV g, .bool false] w (RdB w true) := by
  have a := h.isx
  have b := h'.isx
  have q := eqx_of e e' he
  obtain ⟨FA, a1, a2⟩ := a.kd
  obtain ⟨FB, b1, b2⟩ := b.kd
  have := sameExpr_any e.kd w e'.kd false f g FA FB a1 a2 b1 b2
  have e1 : hdZ false f g = true := by
    unfold hdZ
    rw [a.k, a.x, a.n, a.m, b.k, b.x, b.n, b.m, q.k, q.x, q.n, q.m, eqB_rfl, eqB_rfl]
    simp
  rw [e1, q.kd] at this
  exact this
/-- SameExpr of any two trees answers -/
theorem same_tot {w : World} {e : E} {f g : XP} {B : Z} {FB : List (List Value)} (h : ET w ND e f) (h1 : RW w ND FB ⟨g.q, g.ql, g.qc⟩) (h2 : ZT w false B FB) (pl : Bool) : ∃ b, ∀ W, Ex (fun _ => False) w W → Calls Try.prog 42 #[xV f, xV g, .bool pl] W (RdB W b) := by
  obtain ⟨FA, a1, a2⟩ := h.isx.kd
  exact ⟨hdZ pl f g && sZ pl e.kd B, fun W hW => sameExpr_any e.kd W B pl f g FA FB (a1.low hW) (a2.low hW) (h1.low hW) (h2.low hW)⟩
/-! arguments, statements -/
def az : List (ByteArray × E) → Z
  | [] => .nil
  | (x, e) :: L => ez e x (az L)
theorem PA.zt {w : World} : ∀ {L : List (ByteArray × E)} {F : List (List Value)}, PA w ND L F → ZT w true (az L) F
  | [], F, h => h
  | (x, e) :: L, F, h => by
    obtain ⟨f, F', rfl, h2, h3⟩ := h
    exact h2.isx.zt (b := true) (x := x) (fun z => by cases z) (PA.zt h3)
theorem az_er : ∀ (L L' : List (ByteArray × E)), erP L = erP L' → sZ false (az L) (az L') = true
  | [], [], _ => rfl
  | [], _ :: _, h => by cases h
  | _ :: _, [], h => by cases h
  | (x, e) :: L, (x', e') :: L', h => by
    unfold erP at h
    rw [List.map_cons, List.map_cons] at h
    injection h with h1 h2
    injection h1 with h3 h4
    subst h3
    show sZ false (ez e x (az L)) (ez e' x (az L')) = true
    rw [(eqx_of e e' h4).sz]
    exact az_er L L' h2
def sy : S → Y
  | .nil => .nil
  | .asg t e l c r => .st 0 nb (ez t nb (ez e nb .nil)) .nil .nil .nil .nil .nil l c (sy r)
  | .call x ag l c r => .st 1 x .nil .nil .nil .nil (az ag) .nil l c (sy r)
  | .iff A L l c r => .st 2 nb .nil (sy A) (sy L) .nil .nil .nil l c (sy r)
  | .arm e L r => .am e.fk e.fo e.fv e.fn e.kd e.l e.c (sy L) (sy r)
  | .fr x a e L l c r => .st 3 x (ez a nb (ez e nb .nil)) .nil .nil (sy L) .nil .nil l c (sy r)
  | .rung e cs l c r => .st 4 nb (ez e nb .nil) .nil .nil .nil .nil (az cs) l c (sy r)
theorem SS.yt {w : World} : ∀ {A : S} {b : Bool} {F : List (List Value)}, SS w ND A b F → YT w b (sy A) F
  | .nil, b, F, h => h
  | .asg t e l c r, b, F, h => by
    obtain ⟨hb, g, f1, f2, F', h1, h2, h3, h4, h5, h6, h7⟩ := h
    exact ⟨hb, _, F', [xL f1, xL f2], [], [], [], [], [], h1, ⟨rfl, rfl, rfl, rfl⟩, ⟨rw2 h2 h3 h4, h5.isx.zt (b := false) (fun _ => rfl) (h6.isx.zt (b := false) (fun _ => rfl) rfl)⟩, ⟨RW.nil w ND, rfl⟩, ⟨RW.nil w ND, rfl⟩, ⟨RW.nil w ND, rfl⟩, ⟨RW.nil w ND, rfl⟩, ⟨RW.nil w ND, rfl⟩, SS.yt h7⟩
  | .call x ag l c r, b, F, h => by
    obtain ⟨hb, v, A, F', h1, h2, h3, h4⟩ := h
    exact ⟨hb, _, F', [], [], [], [], A, [], h1, ⟨rfl, rfl, rfl, rfl⟩, ⟨RW.nil w ND, rfl⟩, ⟨RW.nil w ND, rfl⟩, ⟨RW.nil w ND, rfl⟩, ⟨RW.nil w ND, rfl⟩, ⟨h2, h3.zt⟩, ⟨RW.nil w ND, rfl⟩, SS.yt h4⟩
  | .iff A L l c r, b, F, h => by
    obtain ⟨hb, va, vl, FA, FL, F', h1, h2, h3, h4, h5, h6⟩ := h
    exact ⟨hb, _, F', [], FA, FL, [], [], [], h1, ⟨rfl, rfl, rfl, rfl⟩, ⟨RW.nil w ND, rfl⟩, ⟨h2, SS.yt h4⟩, ⟨h3, SS.yt h5⟩, ⟨RW.nil w ND, rfl⟩, ⟨RW.nil w ND, rfl⟩, ⟨RW.nil w ND, rfl⟩, SS.yt h6⟩
  | .arm e L r, b, F, h => by
    obtain ⟨hb, f, vl, FL, F', h1, h2, h3, h4, h5⟩ := h
    have i := h2.isx
    obtain ⟨FK, k1, k2⟩ := i.kd
    exact ⟨hb, f, vl, F', FK, FL, h1, ⟨i.k, i.x, i.n, i.m, i.l, i.c⟩, ⟨k1, k2⟩, ⟨h3, SS.yt h4⟩, SS.yt h5⟩
  | .fr x a e L l c r, b, F, h => by
    obtain ⟨hb, g, f1, f2, vl, FL, F', h1, h2, h3, h4, h5, h6, h7, h8, h9⟩ := h
    exact ⟨hb, _, F', [xL f1, xL f2], [], [], FL, [], [], h1, ⟨rfl, rfl, rfl, rfl⟩, ⟨rw2 h2 h3 h4, h5.isx.zt (b := false) (fun _ => rfl) (h6.isx.zt (b := false) (fun _ => rfl) rfl)⟩, ⟨RW.nil w ND, rfl⟩, ⟨RW.nil w ND, rfl⟩, ⟨h7, SS.yt h8⟩, ⟨RW.nil w ND, rfl⟩, ⟨RW.nil w ND, rfl⟩, SS.yt h9⟩
  | .rung e cs l c r, b, F, h => by
    obtain ⟨hb, g, f1, v, A, F', h1, h2, h3, h4, h5, h6, h7⟩ := h
    exact ⟨hb, _, F', [xL f1], [], [], [], [], A, h1, ⟨rfl, rfl, rfl, rfl⟩, ⟨rw1 h2 h3, h4.isx.zt (b := false) (fun _ => rfl) rfl⟩, ⟨RW.nil w ND, rfl⟩, ⟨RW.nil w ND, rfl⟩, ⟨RW.nil w ND, rfl⟩, ⟨RW.nil w ND, rfl⟩, ⟨h5, h6.zt⟩, SS.yt h7⟩
theorem st_true {k : Int} {x : ByteArray} {ex ex' : Z} {ar ar' el el' bo bo' : Y} {ag ag' co co' : Z} {l c l' c' : Int} {r r' : Y} (h1 : sZ false ex ex' = true) (h2 : sY false ar ar' = true) (h3 : sY false el el' = true) (h4 : sY false bo bo' = true) (h5 : sZ false ag ag' = true) (h6 : sZ false co co' = true) (h7 : sY false r r' = true) : sY false (.st k x ex ar el bo ag co l c r) (.st k x ex' ar' el' bo' ag' co' l' c' r') = true := by
  simp only [sY]
  rw [h1, h2, h3, h4, h5, h6, h7, eqB_rfl]
  simp
theorem sy_er : ∀ (A A' : S), A.er = A'.er → sY false (sy A) (sy A') = true
  | .nil, A', h => by cases A' <;> first | rfl | cases h
  | .asg t e l c r, A', h => by
    cases A' with
    | asg t' e' l' c' r' =>
      simp only [S.er] at h
      injection h with h1 h2 _ _ h3
      exact st_true (((eqx_of t t' h1).sz nb _ _).trans ((eqx_of e e' h2).sz nb .nil .nil)) rfl rfl rfl rfl rfl (sy_er r r' h3)
    | _ => cases h
  | .call x ag l c r, A', h => by
    cases A' with
    | call x' ag' l' c' r' =>
      simp only [S.er] at h
      injection h with h1 h2 _ _ h3
      subst h1
      exact st_true rfl rfl rfl rfl (az_er ag ag' h2) rfl (sy_er r r' h3)
    | _ => cases h
  | .iff A L l c r, A', h => by
    cases A' with
    | iff A2 L2 l' c' r' =>
      simp only [S.er] at h
      injection h with h1 h2 _ _ h3
      exact st_true rfl (sy_er A A2 h1) (sy_er L L2 h2) rfl rfl rfl (sy_er r r' h3)
    | _ => cases h
  | .arm e L r, A', h => by
    cases A' with
    | arm e' L' r' =>
      simp only [S.er] at h
      injection h with h1 h2 h3
      have q := eqx_of e e' h1
      show sY false (.am e.fk e.fo e.fv e.fn e.kd e.l e.c (sy L) (sy r)) (.am e'.fk e'.fo e'.fv e'.fn e'.kd e'.l e'.c (sy L') (sy r')) = true
      simp only [sY, hdZ]
      rw [q.k, q.x, q.n, q.m, q.kd, eqB_rfl, eqB_rfl, sy_er L L' h2, sy_er r r' h3]
      simp
    | _ => cases h
  | .fr x a e L l c r, A', h => by
    cases A' with
    | fr x' a' e' L' l' c' r' =>
      simp only [S.er] at h
      injection h with h0 h1 h2 h4 _ _ h3
      subst h0
      exact st_true (((eqx_of a a' h1).sz nb _ _).trans ((eqx_of e e' h2).sz nb .nil .nil)) rfl rfl (sy_er L L' h4) rfl rfl (sy_er r r' h3)
    | _ => cases h
  | .rung e cs l c r, A', h => by
    cases A' with
    | rung e' cs' l' c' r' =>
      simp only [S.er] at h
      injection h with h1 h2 _ _ h3
      exact st_true ((eqx_of e e' h1).sz nb .nil .nil) rfl rfl rfl rfl (az_er cs cs' h2) (sy_er r r' h3)
    | _ => cases h
/-- SameStmts, for all lists that are the same -/
theorem sys_all : ∀ (A : Y), SYS false A ∧ YOK false A
  | .nil => ⟨sys_f .nil trivial, trivial⟩
  | .st k x ex ar el bo ag co l c r => by
    have h : YOK false (.st k x ex ar el bo ag co l c r) := ⟨(sys_all ar).2, (sys_all el).1, (sys_all bo).1, (sys_all r).2⟩
    exact ⟨sys_f _ h, h⟩
  | .am k op v nm kd l c bo r => by
    have h : YOK false (.am k op v nm kd l c bo r) := ⟨(sys_all bo).1, (sys_all r).2⟩
    exact ⟨sys_f _ h, h⟩
theorem sameS_er {w : World} {A A' : S} {va vb : SLc} {FA FB : List (List Value)} (h1 : RW w ND FA va) (h2 : SS w ND A false FA) (h3 : RW w ND FB vb) (h4 : SS w ND A' false FB) (he : A.er = A'.er) : Calls Try.prog 41 #[slV va, slV vb, .bool false] w (RdB w true) := (sys_all (sy A)).1 w (sy A') va vb FA FB h1 h2.yt h3 h4.yt (sy_er A A' he)
/-- SameExprs of two initial values -/
theorem sameI_er {w : World} {o o' : Option E} {v v' : SLc} (h : IN w ND o v) (h' : IN w ND o' v') (he : o.map E.er = o'.map E.er) : Calls Try.prog 40 #[slV v, slV v', .bool false] w (RdB w true) := by
  cases o with
  | none =>
    cases o' with
    | some e' => cases he
    | none =>
      rw [show v = nl from h, show v' = nl from h']
      exact sameExprs_any .nil w .nil false nl nl [] [] (RW.nil w ND) rfl (RW.nil w ND) rfl
  | some e =>
    cases o' with
    | none => cases he
    | some e' =>
      injection he with he
      obtain ⟨g, f, rfl, h2, h3, h4⟩ := h
      obtain ⟨g', f', rfl, h2', h3', h4'⟩ := h'
      have := sameExprs_any (ez e nb .nil) w (ez e' nb .nil) false _ _ [xL f] [xL f'] (rw1 h2 h3) (h4.isx.zt (b := false) (fun _ => rfl) rfl) (rw1 h2' h3') (h4'.isx.zt (b := false) (fun _ => rfl) rfl)
      rw [(eqx_of e e' he).sz] at this
      exact this
end Go.Proofs.Qxb6500774a
