import Derived.Test.Qxb6500778aUJ
namespace Go.Proofs.Qxb6500778a
open Go.RowKit

/-- The model's session in memory: block s. -/
structure SQ (w : World) (s : Nat) (y : SM) (vr va ur ua : Nat → Value) (sv : Value) : Prop where
  now : MA w s 0 y.now vr va
  stc : w.cell? ⟨s, 304, none⟩ = some sv
  bef : MA w s 305 y.bef ur ua
  cuc : w.cell? ⟨s, 609, none⟩ = some (.bool y.cu)
  sto : w.ownsRow (s + 1) 45 9 sv y.st.length (flatC y.st)
  fz : ∀ j, w.frozen? ⟨s, j, none⟩ = false
  nr : ∀ k, RIn vr va k → k ≠ s ∧ sv.ownBlock ≠ some k
  br : ∀ k, RIn ur ua k → k ≠ s ∧ sv.ownBlock ≠ some k
  nok : MOk y.now
  bok : MOk y.bef
section
variable {w w' : World} {s : Nat} {y : SM} {vr va ur ua xr xa : Nat → Value} {sv : Value} {M : MN}
theorem SQ.lt (h : SQ w s y vr va ur ua sv) : s < w.heap.size := World.block_lt_of_cell? _ _ h.stc
theorem MV.rlt (h : MV w M vr va) {k : Nat} (hk : RIn vr va k) : k < w.heap.size := by
  obtain ⟨d, hd, hk | hk⟩ := hk
  · exact ((h.ro d hd).lt k hk).2
  · exact ((h.ao d hd).lt k hk).2
theorem MA.keepR {b o : Nat} {S : Nat → Prop} (h : MA w b o M vr va) (e : Ex S w w') (hb : ¬ S b) (hr : ∀ k, RIn vr va k → ¬ S k) : MA w' b o M vr va :=
  h.keep e hb (fun d hd k hk => hr k ⟨d, hd, .inl hk⟩) (fun d hd k hk => hr k ⟨d, hd, .inr hk⟩)
theorem MV.keepR {S : Nat → Prop} (h : MV w M vr va) (e : Ex S w w') (hr : ∀ k, RIn vr va k → ¬ S k) : MV w' M vr va :=
  h.keep e (fun d hd k hk => hr k ⟨d, hd, .inl hk⟩) (fun d hd k hk => hr k ⟨d, hd, .inr hk⟩)
theorem SQ.keep {S : Nat → Prop} (h : SQ w s y vr va ur ua sv) (e : Ex S w w') (hs : ¬ S s) (ht : ∀ k, sv.ownBlock = some k → ¬ S k) (hn : ∀ k, RIn vr va k → ¬ S k) (hb : ∀ k, RIn ur ua k → ¬ S k) : SQ w' s y vr va ur ua sv :=
  ⟨h.now.keepR e hs hn, e.cell hs h.stc, h.bef.keepR e hs hb, e.cell hs h.cuc, own_kept h.sto e ht, fun j => (e.frozen hs h.lt).trans (h.fz j), h.nr, h.br, h.nok, h.bok⟩
theorem SQ.new (h : SQ w s y vr va ur ua sv) (e : Ex (fun _ => False) w w') : SQ w' s y vr va ur ua sv := h.keep e (fun z => z) (fun _ _ z => z) (fun _ _ z => z) (fun _ _ z => z)
theorem SQ.thereN (h : SQ w s y vr va ur ua sv) : w.there s 0 304 := fun j hj => by
  obtain ⟨v, hv⟩ : ∃ v, (mnC y.now vr va)[j]? = some v := ⟨_, List.getElem?_eq_getElem (by rw [mnC_len]; exact hj)⟩
  exact ⟨by rw [h.now.range j v hv]; rfl, h.fz _⟩
theorem SQ.thereB (h : SQ w s y vr va ur ua sv) : w.there s 305 304 := fun j hj => by
  obtain ⟨v, hv⟩ : ∃ v, (mnC y.bef ur ua)[j]? = some v := ⟨_, List.getElem?_eq_getElem (by rw [mnC_len]; exact hj)⟩
  exact ⟨by rw [h.bef.range j v hv]; rfl, h.fz _⟩
theorem out_cell (w : World) (b o : Nat) (vs : List Value) (j : Nat) (h : j < o ∨ o + vs.length ≤ j) : (w.setCells b o vs).cell? ⟨b, j, none⟩ = w.cell? ⟨b, j, none⟩ := World.cell?_setCells_out b vs o w ⟨b, j, none⟩ (fun _ _ => h)
/-- a batch is done -/
theorem SQ.commit (h : SQ w s y vr va ur ua sv) (hm : MV w M xr xa) (hx : ∀ k, RIn xr xa k → k ≠ s ∧ sv.ownBlock ≠ some k) (hok : MOk M) :
    SQ (((w.setCells s 305 (mnC y.now vr va)).setCells s 0 (mnC M xr xa)).setCell ⟨s, 609, none⟩ (.bool true)) s ⟨M, y.st, y.now, true⟩ xr xa vr va sv := by
  have l1 := mnC_len y.now vr va
  have l2 := mnC_len M xr xa
  have e1 : Ex (fun k => k = s) w (w.setCells s 305 (mnC y.now vr va)) := Ex.sets (S := fun k => k = s) (p := s) rfl _ _ _ (Ex.refl _ _)
  have e2 : Ex (fun k => k = s) w ((w.setCells s 305 (mnC y.now vr va)).setCells s 0 (mnC M xr xa)) := Ex.sets (S := fun k => k = s) (p := s) rfl _ _ _ e1
  have e3 : Ex (fun k => k = s) w (((w.setCells s 305 (mnC y.now vr va)).setCells s 0 (mnC M xr xa)).setCell ⟨s, 609, none⟩ (.bool true)) := e2.set (p := s) rfl _
  have t1 : (w.setCells s 305 (mnC y.now vr va)).there s 0 304 := fun j hj => by
    obtain ⟨a, b⟩ := h.thereN j hj
    exact ⟨by rw [Nat.zero_add] at a ⊢; rw [out_cell _ _ _ _ _ (.inl (by omega))]; exact a, by rw [World.frozen?_setCells]; exact b⟩
  have r1 := World.rangeAt_setCells_same w s 305 (mnC y.now vr va) (by rw [l1]; exact h.thereB)
  have r2 := World.rangeAt_setCells_same (w.setCells s 305 (mnC y.now vr va)) s 0 (mnC M xr xa) (by rw [l2]; exact t1)
  have c609 : ((w.setCells s 305 (mnC y.now vr va)).setCells s 0 (mnC M xr xa)).cell? ⟨s, 609, none⟩ = some (.bool y.cu) := by
    rw [out_cell _ _ _ _ _ (.inr (by rw [l2]; omega)), out_cell _ _ _ _ _ (.inr (by rw [l1]; omega)), h.cuc]
  have q : ∀ j u, j ≠ 609 → ((w.setCells s 305 (mnC y.now vr va)).setCells s 0 (mnC M xr xa)).cell? ⟨s, j, none⟩ = some u → (((w.setCells s 305 (mnC y.now vr va)).setCells s 0 (mnC M xr xa)).setCell ⟨s, 609, none⟩ (.bool true)).cell? ⟨s, j, none⟩ = some u := fun j u hj hu => set_any _ s 609 j _ c609 hu hj
  refine ⟨(hm.keepR e3 (fun k hk => (hx k hk).1)).ma (fun j u hu => ?_), ?_, (h.now.mv.keepR e3 (fun k hk => (h.nr k hk).1)).ma (fun j u hu => ?_), World.cell?_setCell_same _ _ _ c609, own_kept h.sto e3 (fun k hk (z : k = s) => ?_), fun j => by rw [set_frozen, World.frozen?_setCells, World.frozen?_setCells]; exact h.fz j, hx, h.nr, hok, h.nok⟩
  · have hj : j < 304 := by have := (List.getElem?_eq_some_iff.1 hu).1; rwa [l2] at this
    exact q _ u (by omega) (r2 j u hu)
  · refine q 304 sv (by omega) ?_
    rw [out_cell _ _ _ _ _ (.inr (by rw [l2]; omega)), out_cell _ _ _ _ _ (.inl (by omega)), h.stc]
  · have hj : j < 304 := by have := (List.getElem?_eq_some_iff.1 hu).1; rwa [l1] at this
    refine q _ u (by omega) ?_
    rw [out_cell _ _ _ _ _ (.inr (by rw [l2]; omega))]
    exact r1 j u hu
  · have := (h.sto.lt k hk).1; omega
/-- the last batch is undone -/
theorem SQ.undo (h : SQ w s y vr va ur ua sv) : SQ ((w.setCells s 0 (mnC y.bef ur ua)).setCell ⟨s, 609, none⟩ (.bool false)) s ⟨y.bef, y.st, y.bef, false⟩ ur ua ur ua sv := by
  have l2 := mnC_len y.bef ur ua
  have e2 : Ex (fun k => k = s) w (w.setCells s 0 (mnC y.bef ur ua)) := Ex.sets (S := fun k => k = s) (p := s) rfl _ _ _ (Ex.refl _ _)
  have e3 : Ex (fun k => k = s) w ((w.setCells s 0 (mnC y.bef ur ua)).setCell ⟨s, 609, none⟩ (.bool false)) := e2.set (p := s) rfl _
  have r2 := World.rangeAt_setCells_same w s 0 (mnC y.bef ur ua) (by rw [l2]; exact h.thereN)
  have c609 : (w.setCells s 0 (mnC y.bef ur ua)).cell? ⟨s, 609, none⟩ = some (.bool y.cu) := by
    rw [out_cell _ _ _ _ _ (.inr (by rw [l2]; omega)), h.cuc]
  have q : ∀ j u, j ≠ 609 → (w.setCells s 0 (mnC y.bef ur ua)).cell? ⟨s, j, none⟩ = some u → ((w.setCells s 0 (mnC y.bef ur ua)).setCell ⟨s, 609, none⟩ (.bool false)).cell? ⟨s, j, none⟩ = some u := fun j u hj hu => set_any _ s 609 j _ c609 hu hj
  refine ⟨(h.bef.mv.keepR e3 (fun k hk => (h.br k hk).1)).ma (fun j u hu => ?_), ?_, (h.bef.mv.keepR e3 (fun k hk => (h.br k hk).1)).ma (fun j u hu => ?_), World.cell?_setCell_same _ _ _ c609, own_kept h.sto e3 (fun k hk (z : k = s) => ?_), fun j => by rw [set_frozen, World.frozen?_setCells]; exact h.fz j, h.br, h.br, h.bok, h.bok⟩
  · have hj : j < 304 := by have := (List.getElem?_eq_some_iff.1 hu).1; rwa [l2] at this
    exact q _ u (by omega) (r2 j u hu)
  · refine q 304 sv (by omega) ?_
    rw [out_cell _ _ _ _ _ (.inr (by rw [l2]; omega)), h.stc]
  · have hj : j < 304 := by have := (List.getElem?_eq_some_iff.1 hu).1; rwa [l2] at this
    refine q _ u (by omega) ?_
    rw [out_cell _ _ _ _ _ (.inr (by rw [l2]; omega))]
    exact h.bef.range j u hu
  · have := (h.sto.lt k hk).1; omega
/-- another row of staged changes -/
theorem SQ.stage (h : SQ w s y vr va ur ua sv) (e : Ex (fun k => sv.ownBlock = some k) w w') (v : Value) (C : List Chg) (ho : w'.ownsRow (s + 1) 45 9 v C.length (flatC C)) (hv : ∀ k, v.ownBlock = some k → sv.ownBlock = some k ∨ w.heap.size ≤ k) :
    SQ (w'.setCell ⟨s, 304, none⟩ v) s { y with st := C } vr va ur ua v := by
  have hs : ¬ sv.ownBlock = some s := fun z => by have := (h.sto.lt s z).1; omega
  have e3 : Ex (fun k => k = s) w' (w'.setCell ⟨s, 304, none⟩ v) := (Ex.refl (fun k => k = s) w').set (p := s) rfl _
  have c := e.cell hs h.stc
  have q : ∀ j u, j ≠ 304 → w'.cell? ⟨s, j, none⟩ = some u → (w'.setCell ⟨s, 304, none⟩ v).cell? ⟨s, j, none⟩ = some u := fun j u hj hu => set_any _ s 304 j _ c hu hj
  have n1 : MA w' s 0 y.now vr va := h.now.keepR e hs (fun k hk => (h.nr k hk).2)
  have b1 : MA w' s 305 y.bef ur ua := h.bef.keepR e hs (fun k hk => (h.br k hk).2)
  refine ⟨(n1.mv.keepR e3 (fun k hk => (h.nr k hk).1)).ma (fun j u hu => ?_), World.cell?_setCell_same _ _ _ c, (b1.mv.keepR e3 (fun k hk => (h.br k hk).1)).ma (fun j u hu => ?_), q 609 _ (by omega) (e.cell hs h.cuc), own_kept ho e3 (fun k hk (z : k = s) => ?_), fun j => by rw [set_frozen]; exact (e.frozen hs h.lt).trans (h.fz j), fun k hk => ⟨(h.nr k hk).1, fun z => ?_⟩, fun k hk => ⟨(h.br k hk).1, fun z => ?_⟩, h.nok, h.bok⟩
  · have hj : j < 304 := by have := (List.getElem?_eq_some_iff.1 hu).1; rwa [mnC_len] at this
    exact q _ u (by omega) (n1.range j u hu)
  · exact q _ u (by omega) (b1.range j u hu)
  · have := (ho.lt k hk).1; omega
  · rcases hv k z with z | z
    · exact (h.nr k hk).2 z
    · have := h.now.mv.rlt hk; omega
  · rcases hv k z with z | z
    · exact (h.br k hk).2 z
    · have := h.bef.mv.rlt hk; omega
end
end Go.Proofs.Qxb6500778a
