import Derived.Test.Qxb6500784aSm
namespace Go.Proofs.Qxb6500784a
open Go.RowKit

/-! ### A ledger's cells -/
theorem LA.cell {w : World} {b o : Nat} {l : Led0} {sv : List Led0} {B : List Nat} (h : LA w b o l sv B) {j : Nat} {u : Value} (hj : ∀ m s, (l.vals m s)[j]? = some u) : w.cell? ⟨b, o + j, none⟩ = some u := by
  obtain ⟨sw, m, s, h1, h2, h3, h4, h5, h6⟩ := h
  exact h2.rg j u (hj m s)
theorem LA.fz {w : World} {b o : Nat} {l : Led0} {sv : List Led0} {B : List Nat} (h : LA w b o l sv B) {j : Nat} (hj : j < 326) : w.frozen? ⟨b, o + j, none⟩ = false := by
  obtain ⟨sw, m, s, h1, h2, h3, h4, h5, h6⟩ := h
  exact (h2.th j hj).2
theorem LA.ok {w : World} {b o : Nat} {l : Led0} {sv : List Led0} {B : List Nat} (h : LA w b o l sv B) : l.Ok := by
  obtain ⟨sw, m, s, h1, h2, h3, h4, h5, h6⟩ := h
  exact h3
theorem LA.bl {w : World} {b o : Nat} {l : Led0} {sv : List Led0} {B : List Nat} (h : LA w b o l sv B) : b < w.heap.size ∧ b ∉ B := by
  obtain ⟨sw, m, s, h1, h2, h3, h4, h5, h6⟩ := h
  exact ⟨h5, h6⟩
theorem LA.sav {w : World} {b o : Nat} {l : Led0} {sv : List Led0} {B : List Nat} (h : LA w b o l sv B) : ∃ a c, w.cell? ⟨b, o + 325, none⟩ = some (.slice a sv.length c) := by
  obtain ⟨sw, m, s, h1, h2, h3, h4, h5, h6⟩ := h
  obtain ⟨a, c, e⟩ := own_form h2.cv.sl
  refine ⟨a, c, ?_⟩
  have := h2.rg 325 s (Led0.at325 h3 _ _)
  rw [this, e, ← h1]
  simp [ledW]
theorem LA.mrk {w : World} {b o : Nat} {l : Led0} {sv : List Led0} {B : List Nat} (h : LA w b o l sv B) : ∃ m, w.cell? ⟨b, o + 321, none⟩ = some m ∧ w.ownsRow 0 151 2 m l.mks.length (l.mks.flatMap markV) ∧ (∀ j, m.ownBlock = some j → j ∈ B) := by
  obtain ⟨sw, m, s, h1, h2, h3, h4, h5, h6⟩ := h
  refine ⟨m, h2.rg 321 m (Led0.at321 h3 _ _), h2.cv.fl.2 0 _ m rfl rfl, fun j hj => ?_⟩
  rw [h2.bl]
  exact mem_blks.2 ⟨m, by simp, hj⟩
theorem FlV.congr {w : World} {f f' : Fl} {vs : List Value} (h : FlV w f vs) (e : f'.rows = f.rows) : FlV w f' vs := by unfold FlV at *; rw [e]; exact h
theorem LA.set {w : World} {b o : Nat} {l : Led0} {sv : List Led0} {B : List Nat} (h : LA w b o l sv B) {j : Nat} (u : Value) (l' : Led0) (he : ∀ m s, (l.vals m s).set j u = l'.vals m s) (hm : l'.mks = l.mks) (ho : l'.Ok) : LA (w.setCell ⟨b, o + j, none⟩ u) b o l' sv B := by
  obtain ⟨sw, m, s, h1, h2, h3, h4, h5, h6⟩ := h
  obtain ⟨hc, hr, ht, rfl⟩ := h2
  have hk := hc.keep (S := fun k => k = b) ((Ex.refl (fun k => k = b) _).set (j := o + j) rfl u) (fun k hk e => h6 (e ▸ hk))
  refine ⟨sw, m, s, h1, ⟨⟨hk.fl.congr (by simp [Led0.fl, hm]), hk.sl, hk.ea, hk.nd⟩, ?_, there_set ht _ _, rfl⟩, ho, h4, by simpa using h5, h6⟩
  have := range_set hr j u
  rw [show l.fl.lay [m] s = l.vals m s from rfl, he m s] at this
  exact this
def LStep (w : World) (b o : Nat) (B : List Nat) (v : Value) (l' : Led0) (sv' : List Led0) (e : Ending) (w' : World) : Prop :=
  e = .returned v ∧ Cg b o 326 B w w' ∧ ∃ B', LA w' b o l' sv' B' ∧ ∀ j, j ∈ B' → j ∈ B ∨ w.heap.size ≤ j
attribute [-simp] Try.isAgg92 Try.sizeOf92 Try.typeInfo92 Try.isAgg50 Try.sizeOf50 Try.typeInfo50 Try.isAgg54 Try.sizeOf54 Try.typeInfo54
set_option maxRecDepth 100000 in
set_option maxHeartbeats 4000000 in
theorem begin_any (w : World) (b o : Nat) (l : Led0) (sv : List Led0) (B : List Nat) (g : Int) (h : LA w b o l sv B) (hc : l.opn = false) (hg0 : 0 < g) (hg1 : g ≤ 10000) :
    Calls Try.prog 64 #[.pointer (some ⟨b, o, none⟩), .int .u64 g] w (LStep w b o B (.int .i64 0) { l with opn := true, gl := g, gu := 0 } sv) := by
  have c1 : w.cell? ⟨b, o + 322, none⟩ = some (.bool false) := h.cell (fun m s => by rw [Led0.at322 h.ok, hc])
  have c2 : w.cell? ⟨b, o + 323, none⟩ = some (.int .u64 l.gl) := h.cell (fun m s => Led0.at323 h.ok _ _)
  have c3 : w.cell? ⟨b, o + 324, none⟩ = some (.int .u64 l.gu) := h.cell (fun m s => Led0.at324 h.ok _ _)
  have f1 := h.fz (j := 322) (by omega)
  have f2 := h.fz (j := 323) (by omega)
  have f3 := h.fz (j := 324) (by omega)
  have HR : Hid (LStep w b o B (.int .i64 0) { l with opn := true, gl := g, gu := 0 } sv (.returned (.int .i64 0)) (((w.setCell ⟨b, o + 322, none⟩ (.bool true)).setCell ⟨b, o + 323, none⟩ (.int .u64 g)).setCell ⟨b, o + 324, none⟩ (.int .u64 0))) := by
    have ok := h.ok
    have o1 : Led0.Ok { l with opn := true } := ⟨ok.bl, ok.nl, ok.c, ok.b, ok.n, ok.m, ok.g⟩
    have o2 : Led0.Ok { l with opn := true, gl := g } := ⟨ok.bl, ok.nl, ok.c, ok.b, ok.n, ok.m, ⟨by show 0 ≤ g; omega, by show g < 18446744073709551616; omega, ok.g.2.2⟩⟩
    have o3 : Led0.Ok { l with opn := true, gl := g, gu := 0 } := ⟨ok.bl, ok.nl, ok.c, ok.b, ok.n, ok.m, ⟨by show 0 ≤ g; omega, by show g < 18446744073709551616; omega, by show (0 : Int) ≤ 0; omega, by show (0 : Int) < 18446744073709551616; omega⟩⟩
    have a1 := h.set (j := 322) (.bool true) { l with opn := true } (fun m s => Led0.set322 ok m s true) rfl o1
    have a2 := a1.set (j := 323) (.int .u64 g) { l with opn := true, gl := g } (fun m s => Led0.set323 o1 m s g) rfl o2
    have a3 := a2.set (j := 324) (.int .u64 0) { l with opn := true, gl := g, gu := 0 } (fun m s => Led0.set324 o2 m s 0) rfl o3
    exact ⟨rfl, (((Cg.refl b o 326 B w).set (by omega) _).set (by omega) _).set (by omega) _, B, a3, fun j hj => .inl hj⟩
  generalize LStep w b o B (.int .i64 0) { l with opn := true, gl := g, gu := 0 } sv = R at *
  clear h hc
  have d1 : decide (g = 0) = false := by simp; omega
  have d2 : decide (10000 < g) = false := by simp; omega
  go_enter Try.func64, Try.ntmps64
  go_wp2
  exact HR.out
theorem split_last {α β : Type} {f : α → β} {sw : List α} {sv : List β} {x : β} (h : sw.map f = sv ++ [x]) : ∃ sw' p, sw = sw' ++ [p] ∧ sw'.map f = sv ∧ f p = x := by
  rcases List.eq_nil_or_concat sw with rfl | ⟨a, b, rfl⟩
  · simp at h
  · rw [List.concat_eq_append, List.map_append] at h
    have := List.append_inj' h rfl
    exact ⟨a, b, by simp, this.1, by simpa using this.2⟩
theorem LA.pop {w : World} {b o : Nat} {l : Led0} {sv : List Led0} {x : Led0} {B : List Nat} (h : LA w b o l (sv ++ [x]) B) : ∃ a c B', w.cell? ⟨b, o + 325, none⟩ = some (.slice a (sv.length + 1) c) ∧ sv.length + 1 ≤ c ∧ LA (w.setCell ⟨b, o + 325, none⟩ (.slice a sv.length c)) b o l sv B' ∧ ∀ j, j ∈ B' → j ∈ B := by
  obtain ⟨sw, m, s, h1, h2, h3, h4, h5, h6⟩ := h
  obtain ⟨sw', p, rfl, e1, _⟩ := split_last h1
  obtain ⟨hc, hr, ht, rfl⟩ := h2
  have hlw : (ledW sw').length = sv.length := by rw [← e1]; simp [ledW]
  have hlp : ledW (sw' ++ [p]) = ledW sw' ++ [(p.1.fl, [p.2])] := by simp [ledW]
  rw [hlp] at hc h6 ⊢
  have hl : (ledW sw' ++ [(p.1.fl, [p.2])]).length = sv.length + 1 := by rw [List.length_append, hlw]; rfl
  obtain ⟨g, c, hs⟩ := own_some hc.sl (by rw [hl]; omega)
  rw [hl] at hs
  subst hs
  have hcap : sv.length + 1 ≤ c := by
    rcases hc.sl.2 with ⟨e, _⟩ | ⟨g', cap, cur, e, _, _, hn, _⟩
    · cases e
    · injection e with _ _ e; subst e; rw [hl] at hn; exact hn
  have hlen : ∀ q, q ∈ ledW sw' → (q.1.lay q.2 nilS).length = 326 := fun q hq => by
    obtain ⟨y, hy, rfl⟩ := List.mem_map.1 hq
    exact Led0.len (h4 y.1 (by rw [← e1]; exact List.mem_append_left _ (List.mem_map_of_mem hy))) _ _
  rw [← hlw] at hc h6 ⊢
  obtain ⟨hp, hsub⟩ := hc.pop hlen
  have hk := hp.keep (S := fun k => k = b) ((Ex.refl (fun k => k = b) _).set (j := o + 325) rfl (.slice (some ⟨g, 0, none⟩) (ledW sw').length c)) (fun k hk e => h6 (e ▸ hsub k hk))
  refine ⟨some ⟨g, 0, none⟩, c, _, hr 325 _ ?_, by omega, ⟨sw', m, .slice (some ⟨g, 0, none⟩) (ledW sw').length c, e1, ⟨hk, ?_, there_set ht _ _, rfl⟩, h3, fun y hy => h4 y (List.mem_append_left _ hy), by simpa using h5, fun e => h6 (hsub b e)⟩, hsub⟩
  · rw [hlw]; exact Led0.at325 h3 _ _
  · have := range_set hr 325 (.slice (some ⟨g, 0, none⟩) (ledW sw').length c)
    rw [show l.fl.lay [m] (Value.slice (some ⟨g, 0, none⟩) (sv.length + 1) c) = l.vals m (Value.slice (some ⟨g, 0, none⟩) (sv.length + 1) c) from rfl, Led0.set325 h3] at this
    exact this
set_option maxRecDepth 100000 in
set_option maxHeartbeats 4000000 in
/-- State.Commit -/
theorem commitL_any (w : World) (b o : Nat) (l : Led0) (sv : List Led0) (x : Led0) (B : List Nat) (h : LA w b o l (sv ++ [x]) B) (hl : sv.length ≤ 1000) :
    Calls Try.prog 67 #[.pointer (some ⟨b, o, none⟩)] w (LStep w b o B (.int .i64 0) l sv) := by
  have bd : Below w.heap.size w w.drew := (Below.refl _ _).drew
  obtain ⟨a, c, B', c1, hcap, h2, h3⟩ := (h.below bd).pop
  have c0 : w.cell? ⟨b, o + 325, none⟩ = some (.slice a (sv.length + 1) c) := c1
  have f1 := h.fz (j := 325) (by omega)
  have HR : Hid (LStep w b o B (.int .i64 0) l sv (.returned (.int .i64 0)) (w.drew.setCell ⟨b, o + 325, none⟩ (.slice a sv.length c))) :=
    ⟨rfl, (Cg.below bd h.bl.1).set (by omega) _, B', h2, fun j hj => .inl (h3 j hj)⟩
  generalize LStep w b o B (.int .i64 0) l sv = R at *
  generalize sv.length = n at *
  clear h h2 h3 c1 bd
  have hz := Try.sizeOf50
  go_enter Try.func67, Try.ntmps67
  go_upto_region 3 with fail
  go_region
  go_wp2
  exact HR.out
end Go.Proofs.Qxb6500784a
