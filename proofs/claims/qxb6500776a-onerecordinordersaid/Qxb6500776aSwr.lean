import Derived.Test.Qxb6500776aSwp
namespace Go.Proofs.Qxb6500776a
open Go.RowKit

theorem BX.conj {w : World} {p : Nat} {s : Shp} (h : BX w p s) : w.cell? ⟨p, 0, none⟩ = some (.int .i64 s.id) ∧ w.cell? ⟨p, 1, none⟩ = some (.int .i64 s.team) ∧ w.cell? ⟨p, 2, none⟩ = some (.int .i64 s.x) ∧ w.cell? ⟨p, 3, none⟩ = some (.int .i64 s.y) ∧ w.cell? ⟨p, 4, none⟩ = some (.int .i64 s.depth) ∧ w.cell? ⟨p, 5, none⟩ = some (.int .i64 s.speed) ∧ w.cell? ⟨p, 6, none⟩ = some (.int .i64 s.mast) ∧ w.cell? ⟨p, 7, none⟩ = some (.int .i64 s.noise) ∧ w.cell? ⟨p, 8, none⟩ = some (.bool s.afloat) ∧ w.cell? ⟨p, 9, none⟩ = some (.bool s.radar) ∧ w.cell? ⟨p, 10, none⟩ = some (.bool s.sonar) ∧ w.cell? ⟨p, 11, none⟩ = some (.bool s.ping) := ⟨h.c0, h.c1, h.c2, h.c3, h.c4, h.c5, h.c6, h.c7, h.c8, h.c9, h.c10, h.c11⟩
theorem s13_ex {w w' : World} {nb i s : Nat} {z : Nat} {t : Shp} {S : Nat → Prop} (h : w.cell? ⟨nb, i, none⟩ = some (.int .i64 z) ∧ w.cell? ⟨s, 1137 + z * 12, none⟩ = some (.int .i64 t.id) ∧ w.cell? ⟨s, 1137 + z * 12 + 1, none⟩ = some (.int .i64 t.team) ∧ w.cell? ⟨s, 1137 + z * 12 + 2, none⟩ = some (.int .i64 t.x) ∧ w.cell? ⟨s, 1137 + z * 12 + 3, none⟩ = some (.int .i64 t.y) ∧ w.cell? ⟨s, 1137 + z * 12 + 4, none⟩ = some (.int .i64 t.depth) ∧ w.cell? ⟨s, 1137 + z * 12 + 5, none⟩ = some (.int .i64 t.speed) ∧ w.cell? ⟨s, 1137 + z * 12 + 6, none⟩ = some (.int .i64 t.mast) ∧ w.cell? ⟨s, 1137 + z * 12 + 7, none⟩ = some (.int .i64 t.noise) ∧ w.cell? ⟨s, 1137 + z * 12 + 8, none⟩ = some (.bool t.afloat) ∧ w.cell? ⟨s, 1137 + z * 12 + 9, none⟩ = some (.bool t.radar) ∧ w.cell? ⟨s, 1137 + z * 12 + 10, none⟩ = some (.bool t.sonar) ∧ w.cell? ⟨s, 1137 + z * 12 + 11, none⟩ = some (.bool t.ping)) (e : Ex S w w') (hn : ¬ S nb) (hs : ¬ S s) : w'.cell? ⟨nb, i, none⟩ = some (.int .i64 z) ∧ w'.cell? ⟨s, 1137 + z * 12, none⟩ = some (.int .i64 t.id) ∧ w'.cell? ⟨s, 1137 + z * 12 + 1, none⟩ = some (.int .i64 t.team) ∧ w'.cell? ⟨s, 1137 + z * 12 + 2, none⟩ = some (.int .i64 t.x) ∧ w'.cell? ⟨s, 1137 + z * 12 + 3, none⟩ = some (.int .i64 t.y) ∧ w'.cell? ⟨s, 1137 + z * 12 + 4, none⟩ = some (.int .i64 t.depth) ∧ w'.cell? ⟨s, 1137 + z * 12 + 5, none⟩ = some (.int .i64 t.speed) ∧ w'.cell? ⟨s, 1137 + z * 12 + 6, none⟩ = some (.int .i64 t.mast) ∧ w'.cell? ⟨s, 1137 + z * 12 + 7, none⟩ = some (.int .i64 t.noise) ∧ w'.cell? ⟨s, 1137 + z * 12 + 8, none⟩ = some (.bool t.afloat) ∧ w'.cell? ⟨s, 1137 + z * 12 + 9, none⟩ = some (.bool t.radar) ∧ w'.cell? ⟨s, 1137 + z * 12 + 10, none⟩ = some (.bool t.sonar) ∧ w'.cell? ⟨s, 1137 + z * 12 + 11, none⟩ = some (.bool t.ping) := by
  obtain ⟨h0, h1, h2, h3, h4, h5, h6, h7, h8, h9, h10, h11, h12⟩ := h
  exact ⟨e.cell hn h0, e.cell hs h1, e.cell hs h2, e.cell hs h3, e.cell hs h4, e.cell hs h5, e.cell hs h6, e.cell hs h7, e.cell hs h8, e.cell hs h9, e.cell hs h10, e.cell hs h11, e.cell hs h12⟩
theorem conj24 {w : World} {p q : Nat} {o t : Shp} (h : BX w q o) (k : BX w p t) : w.cell? ⟨q, 0, none⟩ = some (.int .i64 o.id) ∧ w.cell? ⟨q, 1, none⟩ = some (.int .i64 o.team) ∧ w.cell? ⟨q, 2, none⟩ = some (.int .i64 o.x) ∧ w.cell? ⟨q, 3, none⟩ = some (.int .i64 o.y) ∧ w.cell? ⟨q, 4, none⟩ = some (.int .i64 o.depth) ∧ w.cell? ⟨q, 5, none⟩ = some (.int .i64 o.speed) ∧ w.cell? ⟨q, 6, none⟩ = some (.int .i64 o.mast) ∧ w.cell? ⟨q, 7, none⟩ = some (.int .i64 o.noise) ∧ w.cell? ⟨q, 8, none⟩ = some (.bool o.afloat) ∧ w.cell? ⟨q, 9, none⟩ = some (.bool o.radar) ∧ w.cell? ⟨q, 10, none⟩ = some (.bool o.sonar) ∧ w.cell? ⟨q, 11, none⟩ = some (.bool o.ping) ∧ w.cell? ⟨p, 0, none⟩ = some (.int .i64 t.id) ∧ w.cell? ⟨p, 1, none⟩ = some (.int .i64 t.team) ∧ w.cell? ⟨p, 2, none⟩ = some (.int .i64 t.x) ∧ w.cell? ⟨p, 3, none⟩ = some (.int .i64 t.y) ∧ w.cell? ⟨p, 4, none⟩ = some (.int .i64 t.depth) ∧ w.cell? ⟨p, 5, none⟩ = some (.int .i64 t.speed) ∧ w.cell? ⟨p, 6, none⟩ = some (.int .i64 t.mast) ∧ w.cell? ⟨p, 7, none⟩ = some (.int .i64 t.noise) ∧ w.cell? ⟨p, 8, none⟩ = some (.bool t.afloat) ∧ w.cell? ⟨p, 9, none⟩ = some (.bool t.radar) ∧ w.cell? ⟨p, 10, none⟩ = some (.bool t.sonar) ∧ w.cell? ⟨p, 11, none⟩ = some (.bool t.ping) := ⟨h.c0, h.c1, h.c2, h.c3, h.c4, h.c5, h.c6, h.c7, h.c8, h.c9, h.c10, h.c11, k.c0, k.c1, k.c2, k.c3, k.c4, k.c5, k.c6, k.c7, k.c8, k.c9, k.c10, k.c11⟩
section
variable {D : Shp → Shp → Nat → Prop} {A : List Shp} {M : List Smk} {o t : Shp} {G : List Nat} {Ks : Nat → Prop} {B : Brd} {i z : Nat}
theorem bd_next0 (hz : G[i]? = some z) (ht : A[z]? = some t) (h : Bd (DN D A M o G Ks i) B) (hx : ∀ k, Ks k → seeP M o t k = false) : Bd (DN D A M o G Ks (i + 1)) B := h.iff fun o' t' k' => by
  rw [DN_succ hz ht]
  constructor
  · rintro (h | ⟨_, _, h1, h2⟩)
    · exact h
    · rw [hx k' h1] at h2; cases h2
  · exact .inl
theorem bd_next1 {k : Nat} (hz : G[i]? = some z) (ht : A[z]? = some t) (h : Bd (fun o' t' k' => DN D A M o G Ks i o' t' k' ∨ (o' = o ∧ t' = t ∧ k' = k)) B) (hx : ∀ x, (Ks x ∧ seeP M o t x = true) ↔ x = k) : Bd (DN D A M o G Ks (i + 1)) B := h.iff fun o' t' k' => by
  rw [DN_succ hz ht, ← hx k']
theorem bd_next2 {k l : Nat} (hz : G[i]? = some z) (ht : A[z]? = some t) (h : Bd (fun o' t' k' => (DN D A M o G Ks i o' t' k' ∨ (o' = o ∧ t' = t ∧ k' = k)) ∨ (o' = o ∧ t' = t ∧ k' = l)) B) (hx : ∀ x, (Ks x ∧ seeP M o t x = true) ↔ (x = k ∨ x = l)) : Bd (DN D A M o G Ks (i + 1)) B := h.iff fun o' t' k' => by
  rw [DN_succ hz ht, hx k']
  constructor
  · rintro (h | ⟨h1, h2, h3 | h3⟩)
    · exact .inl (.inl h)
    · exact .inl (.inr ⟨h1, h2, h3⟩)
    · exact .inr ⟨h1, h2, h3⟩
  · rintro ((h | ⟨h1, h2, h3⟩) | ⟨h1, h2, h3⟩)
    · exact .inl h
    · exact .inr ⟨h1, h2, .inl h3⟩
    · exact .inr ⟨h1, h2, .inr h3⟩
theorem only3 (h2 : seeP M o t 2 = false) (h3 : seeP M o t 3 = true) : ∀ x, ((x = 2 ∨ x = 3) ∧ seeP M o t x = true) ↔ x = 3 := fun x => by
  constructor
  · rintro ⟨rfl | rfl, h⟩
    · rw [h2] at h; cases h
    · rfl
  · rintro rfl
    exact ⟨.inr rfl, h3⟩
theorem only2 (h2 : seeP M o t 2 = true) (h3 : seeP M o t 3 = false) : ∀ x, ((x = 2 ∨ x = 3) ∧ seeP M o t x = true) ↔ x = 2 := fun x => by
  constructor
  · rintro ⟨rfl | rfl, h⟩
    · rfl
    · rw [h3] at h; cases h
  · rintro rfl
    exact ⟨.inl rfl, h2⟩
end
def z48 : Array Value := #[.int .i64 0, .int .i64 0, .int .i64 0, .int .i64 0, .int .i64 0, .int .i64 0, .int .i64 0, .int .i64 0, .int .i64 0, .int .i64 0, .int .i64 0, .int .i64 0, .int .i64 0, .int .i64 0, .int .i64 0, .int .i64 0, .int .i64 0, .int .i64 0, .int .i64 0, .int .i64 0, .int .i64 0, .int .i64 0, .int .i64 0, .int .i64 0, .int .i64 0, .int .i64 0, .int .i64 0, .int .i64 0, .int .i64 0, .int .i64 0, .int .i64 0, .int .i64 0, .int .i64 0, .int .i64 0, .int .i64 0, .int .i64 0, .int .i64 0, .int .i64 0, .int .i64 0, .int .i64 0, .int .i64 0, .int .i64 0, .int .i64 0, .int .i64 0, .int .i64 0, .int .i64 0, .int .i64 0, .int .i64 0]
theorem new_out (w : World) : OutB (w.alloc (.cells z48 65)) w.heap.size (fun _ => 0) := by
  refine ⟨fun j hj => ?_, fun j => by simp [go_sem]⟩
  have hb : (w.alloc (.cells z48 65)).heap[w.heap.size]? = some (.cells z48 65) := heap_alloc_new w _
  unfold World.cell?
  simp only [hb]
  have : ∀ j, j < 48 → z48[j]? = some (Value.int .i64 0) := by intro j hj; unfold z48; rcases j with _ | _ | _ | _ | _ | _ | _ | _ | _ | _ | _ | _ | _ | _ | _ | _ | _ | _ | _ | _ | _ | _ | _ | _ | _ | _ | _ | _ | _ | _ | _ | _ | _ | _ | _ | _ | _ | _ | _ | _ | _ | _ | _ | _ | _ | _ | _ | _ | j <;> first | rfl | omega
  simpa using this j hj

set_option maxRecDepth 100000 in
set_option maxHeartbeats 4000000 in
theorem sweepRadar_any (w : World) (s : Nat) (A : List Shp) (v2 : Value) (ld tl : Int) (pg : Bool) (M : List Smk) (B : Brd) (h : SCN w s A v2 ld tl pg M B) (D : Shp → Shp → Nat → Prop) (hb : Bd D B) (o : Shp) (hm : o ∈ A) :
    Calls Try.prog 34 #[.pointer (some ⟨s, 0, none⟩), .agg #[.int .i64 o.id, .int .i64 o.team, .int .i64 o.x, .int .i64 o.y, .int .i64 o.depth, .int .i64 o.speed, .int .i64 o.mast, .int .i64 o.noise, .bool o.afloat, .bool o.radar, .bool o.sonar, .bool o.ping]] w (SwpPost w s A v2 ld tl pg M (DA D A M o (fun k => k = 0))) := by
  have ho : ShpOk o := by obtain ⟨C, h⟩ := h; exact h.ok o hm
  have hsl := h.lt
  have HE := hide (((Ex.refl (fun k => k = s) w).alloc (.cells (shpA o) 38)).alloc (.cells z48 65))
  have HX := hide ((BX.new w o).below (be1 _ (.cells z48 65)))
  have HS := hide (h.below (be2 w (.cells (shpA o) 38) (.cells z48 65)))
  have HO := hide (new_out (w.alloc (.cells (shpA o) 38)))
  have hsz : (w.alloc (.cells (shpA o) 38)).heap.size = w.heap.size + 1 := by simp
  have hrow : ∀ k, v2.ownBlock = some k → k < w.heap.size := fun k hk => h.row hk
  rw [hsz] at HO
  have HB := hide hb
  have HM := hide hm
  have HOK := hide ho
  have HROW := hide hrow
  clear h hb hm ho hsz hrow
  go_enter Try.func34, Try.ntmps34
  go_upto_region 2 with fail
  have hsa : #[.int .i64 o.id, .int .i64 o.team, .int .i64 o.x, .int .i64 o.y, .int .i64 o.depth, .int .i64 o.speed, .int .i64 o.mast, .int .i64 o.noise, .bool o.afloat, .bool o.radar, .bool o.sonar, .bool o.ping] = shpA o := rfl
  have hz48 : #[.int .i64 0, .int .i64 0, .int .i64 0, .int .i64 0, .int .i64 0, .int .i64 0, .int .i64 0, .int .i64 0, .int .i64 0, .int .i64 0, .int .i64 0, .int .i64 0, .int .i64 0, .int .i64 0, .int .i64 0, .int .i64 0, .int .i64 0, .int .i64 0, .int .i64 0, .int .i64 0, .int .i64 0, .int .i64 0, .int .i64 0, .int .i64 0, .int .i64 0, .int .i64 0, .int .i64 0, .int .i64 0, .int .i64 0, .int .i64 0, .int .i64 0, .int .i64 0, .int .i64 0, .int .i64 0, .int .i64 0, .int .i64 0, .int .i64 0, .int .i64 0, .int .i64 0, .int .i64 0, .int .i64 0, .int .i64 0, .int .i64 0, .int .i64 0, .int .i64 0, .int .i64 0, .int .i64 0, .int .i64 0] = z48 := rfl
  rw [hsa, hz48]
  clear hsa hz48
  generalize (w.alloc (.cells (shpA o) 38)).alloc (.cells z48 65) = w1 at *
  obtain ⟨nb, hnb⟩ : ∃ q, w.heap.size + 1 = q := ⟨_, rfl⟩
  rw [hnb] at HO ⊢
  have hbs : ¬ nb = s := by omega
  have hqs : ¬ w.heap.size = s := by omega
  have hqb : ¬ w.heap.size = nb := by omega
  have hnr : ∀ k, v2.ownBlock = some k → ¬ k = nb := fun k hk e => by have := HROW.out k hk; omega
  have HNR := hide hnr
  clear hnr
  have HQ0 := hide hnb
  obtain ⟨q, hq⟩ : ∃ q, w.heap.size = q := ⟨_, rfl⟩
  rw [hq] at HX hqs hqb ⊢
  have HQ := hide hq
  clear hq hnb HROW hsl
  have zS := BX.conj HX.out
  go_region_held3 (fun w' => w'.cell? ⟨q, 0, none⟩ = some (.int .i64 o.id) ∧ w'.cell? ⟨q, 1, none⟩ = some (.int .i64 o.team) ∧ w'.cell? ⟨q, 2, none⟩ = some (.int .i64 o.x) ∧ w'.cell? ⟨q, 3, none⟩ = some (.int .i64 o.y) ∧ w'.cell? ⟨q, 4, none⟩ = some (.int .i64 o.depth) ∧ w'.cell? ⟨q, 5, none⟩ = some (.int .i64 o.speed) ∧ w'.cell? ⟨q, 6, none⟩ = some (.int .i64 o.mast) ∧ w'.cell? ⟨q, 7, none⟩ = some (.int .i64 o.noise) ∧ w'.cell? ⟨q, 8, none⟩ = some (.bool o.afloat) ∧ w'.cell? ⟨q, 9, none⟩ = some (.bool o.radar) ∧ w'.cell? ⟨q, 10, none⟩ = some (.bool o.sonar) ∧ w'.cell? ⟨q, 11, none⟩ = some (.bool o.ping)) (first | (with_reducible exact zS) | exact zS)
    (first
      | (go_at_call 53; refine (radarReachS (SCN.drew HS.out) o HOK.out).mono ?_; rintro e w2 ⟨r, rfl, hr1, hr2, b2⟩; (try replace b2 := of_drew b2); have HR := hide (And.intro hr1 hr2); have HX2 := hide (HX.out.below b2); have HS2 := hide (HS.out.below b2); have HO2 := hide (HO.out.keep (Ex.of (S := fun _ => False) b2) (fun e => e)); have HE2 := hide (HE.out.trans (Ex.of b2)); clear zS; have zS := BX.conj HX2.out; clear b2 hr1 hr2)
      | (go_at_call 52; refine (foesS_any HS2.out nb _ HO2.out hbs o HOK.out r HR.out.1).mono ?_; rintro e w3 ⟨G, F, rfl, ho3, hex3, hf⟩; have HO3 := hide ho3; have HF := hide hf; have HX3 := hide (HX2.out.keep hex3 hqb); have HS3 := hide (HS2.out.keep hex3 (fun e => hbs e.symm) HNR.out); have HE3 := hide (HE2.out.trans2 hex3 (fun j hj => .inr (by rw [hj, ← HQ0.out]; omega))); clear zS; have zS := BX.conj HX3.out; clear ho3 hf hex3))
  clear zS HX HS HO HE HX2 HS2 HO2 HE2
  rename_i hh0
  clear hh0
  have hG48 := HF.out.len
  go_wp2
  go_loopw [6] (fun si wr => ∃ (i : Nat) (B' : Brd), i ≤ G.length ∧ si = .int .i64 i ∧ SCN wr s A v2 ld tl pg M B' ∧ OutB wr nb F ∧ BX wr q o ∧ Ex (fun k => k = s) w wr ∧ Bd (DN D A M o G (fun k => k = 0) i) B') (fun si _ => G.length - (intOf si).toNat)
  case atStart => exact ⟨0, B, by omega, rfl, HS3.out, HO3.out, HX3.out, HE3.out, HB.out.zero⟩
  case round =>
    clear HX3 HS3 HO3 HE3 HB
    obtain ⟨i, B1, hi, rfl, hs, hob, hx, hex, hbd⟩ := hrel
    have HS := hide hs
    have HO := hide hob
    have HX := hide hx
    have HE := hide hex
    have HB := hide hbd
    clear hs hob hx hex hbd
    by_cases hlt : i < G.length
    · have hlti : (i : Int) < (G.length : Int) := by omega
      have hi48 : (i : Int) < 48 := by omega
      obtain ⟨z, hz⟩ : ∃ z, G[i]? = some z := ⟨_, List.getElem?_eq_getElem hlt⟩
      obtain ⟨t, ht, hne⟩ := HF.out.lt z (List.mem_of_getElem? hz)
      have hzA := (List.getElem?_eq_some_iff.1 ht).1
      have htm := List.mem_of_getElem? ht
      have htok : ShpOk t ∧ A.length ≤ 48 := by obtain ⟨C, h⟩ := HS.out; exact ⟨h.ok t htm, h.n⟩
      have hz48 : (z : Int) < 48 := by have := htok.2; omega
      have HT := hide (And.intro hz ht)
      have HTK := hide htok.1
      have co := HO.out.c i (by omega)
      rw [HF.out.hold i z hz] at co
      have u0 := HS.out.ship ht (j := 0) (v := .int .i64 t.id) rfl
      have u1 := HS.out.ship ht (j := 1) (v := .int .i64 t.team) rfl
      have u2 := HS.out.ship ht (j := 2) (v := .int .i64 t.x) rfl
      have u3 := HS.out.ship ht (j := 3) (v := .int .i64 t.y) rfl
      have u4 := HS.out.ship ht (j := 4) (v := .int .i64 t.depth) rfl
      have u5 := HS.out.ship ht (j := 5) (v := .int .i64 t.speed) rfl
      have u6 := HS.out.ship ht (j := 6) (v := .int .i64 t.mast) rfl
      have u7 := HS.out.ship ht (j := 7) (v := .int .i64 t.noise) rfl
      have u8 := HS.out.ship ht (j := 8) (v := .bool t.afloat) rfl
      have u9 := HS.out.ship ht (j := 9) (v := .bool t.radar) rfl
      have u10 := HS.out.ship ht (j := 10) (v := .bool t.sonar) rfl
      have u11 := HS.out.ship ht (j := 11) (v := .bool t.ping) rfl
      rw [Nat.add_zero] at u0
      clear hz ht hne hzA htm htok
      go_upto_region 6 with fail
      have hN1 : ¬ nb = wr.heap.size := fun e => by have := HO.out.lt; omega
      have hN2 : ¬ s = wr.heap.size := fun e => by have := HS.out.lt; omega
      have zS : wr.cell? ⟨nb, i, none⟩ = some (.int .i64 z) ∧ wr.cell? ⟨s, 1137 + z * 12, none⟩ = some (.int .i64 t.id) ∧ wr.cell? ⟨s, 1137 + z * 12 + 1, none⟩ = some (.int .i64 t.team) ∧ wr.cell? ⟨s, 1137 + z * 12 + 2, none⟩ = some (.int .i64 t.x) ∧ wr.cell? ⟨s, 1137 + z * 12 + 3, none⟩ = some (.int .i64 t.y) ∧ wr.cell? ⟨s, 1137 + z * 12 + 4, none⟩ = some (.int .i64 t.depth) ∧ wr.cell? ⟨s, 1137 + z * 12 + 5, none⟩ = some (.int .i64 t.speed) ∧ wr.cell? ⟨s, 1137 + z * 12 + 6, none⟩ = some (.int .i64 t.mast) ∧ wr.cell? ⟨s, 1137 + z * 12 + 7, none⟩ = some (.int .i64 t.noise) ∧ wr.cell? ⟨s, 1137 + z * 12 + 8, none⟩ = some (.bool t.afloat) ∧ wr.cell? ⟨s, 1137 + z * 12 + 9, none⟩ = some (.bool t.radar) ∧ wr.cell? ⟨s, 1137 + z * 12 + 10, none⟩ = some (.bool t.sonar) ∧ wr.cell? ⟨s, 1137 + z * 12 + 11, none⟩ = some (.bool t.ping) := ⟨co, u0, u1, u2, u3, u4, u5, u6, u7, u8, u9, u10, u11⟩
      go_region_held3 (fun w' => w'.cell? ⟨nb, i, none⟩ = some (.int .i64 z) ∧ w'.cell? ⟨s, 1137 + z * 12, none⟩ = some (.int .i64 t.id) ∧ w'.cell? ⟨s, 1137 + z * 12 + 1, none⟩ = some (.int .i64 t.team) ∧ w'.cell? ⟨s, 1137 + z * 12 + 2, none⟩ = some (.int .i64 t.x) ∧ w'.cell? ⟨s, 1137 + z * 12 + 3, none⟩ = some (.int .i64 t.y) ∧ w'.cell? ⟨s, 1137 + z * 12 + 4, none⟩ = some (.int .i64 t.depth) ∧ w'.cell? ⟨s, 1137 + z * 12 + 5, none⟩ = some (.int .i64 t.speed) ∧ w'.cell? ⟨s, 1137 + z * 12 + 6, none⟩ = some (.int .i64 t.mast) ∧ w'.cell? ⟨s, 1137 + z * 12 + 7, none⟩ = some (.int .i64 t.noise) ∧ w'.cell? ⟨s, 1137 + z * 12 + 8, none⟩ = some (.bool t.afloat) ∧ w'.cell? ⟨s, 1137 + z * 12 + 9, none⟩ = some (.bool t.radar) ∧ w'.cell? ⟨s, 1137 + z * 12 + 10, none⟩ = some (.bool t.sonar) ∧ w'.cell? ⟨s, 1137 + z * 12 + 11, none⟩ = some (.bool t.ping)) (first | (with_reducible exact zS) | exact zS | (refine s13_ex (S := fun k => k = wr.heap.size) zS ?_ hN1 hN2; repeat (first | exact Ex.refl _ _ | refine Ex.drew ?_ | refine Ex.alloc ?_ _ | refine Ex.set ?_ rfl _))) (fail)
      clear co zS u0 u1 u2 u3 u4 u5 u6 u7 u8 u9 u10 u11
      have hst : #[.int .i64 t.id, .int .i64 t.team, .int .i64 t.x, .int .i64 t.y, .int .i64 t.depth, .int .i64 t.speed, .int .i64 t.mast, .int .i64 t.noise, .bool t.afloat, .bool t.radar, .bool t.sonar, .bool t.ping] = shpA t := rfl
      rw [hst]
      clear hst
      have HY1 := hide (BX.new wr t).drew
      have HS1 := hide (HS.out.below (be1 wr (.cells (shpA t) 38))).drew
      have HX1 := hide (HX.out.below (be1 wr (.cells (shpA t) 38))).drew
      have HO1 := hide (HO.out.keep ((Ex.refl (fun _ => False) wr).alloc (.cells (shpA t) 38)) (fun e => e)).drew
      have HE1 := hide (HE.out.alloc (.cells (shpA t) 38)).drew
      generalize (wr.alloc (.cells (shpA t) 38)).drew = wa at *
      obtain ⟨p, hp⟩ : ∃ p, wr.heap.size = p := ⟨_, rfl⟩
      rw [hp] at HY1 hN2 ⊢
      have hps : ¬ p = s := fun e => hN2 e.symm
      clear hp hN1 hN2 HS HX HO HE
      have x2 := HX1.out.c2
      have x3 := HX1.out.c3
      have y2 := HY1.out.c2
      have y3 := HY1.out.c3
      go_wp2_with fail
      refine (distSq_any _ o.x o.y t.x t.y HOK.out.x HOK.out.y HTK.out.x HTK.out.y).mono ?_
      rintro e w' ⟨rfl, ew⟩
      rw [ew]
      obtain ⟨d, hd⟩ : ∃ d, dsq o.x o.y t.x t.y = d := ⟨_, rfl⟩
      rw [hd]
      have HDD := hide (show d = dstP o t from hd.symm)
      have hd0 := hide (show 0 ≤ d ∧ d ≤ 8796093022208 by rw [← hd]; exact dsq_rng HOK.out.x HOK.out.y HTK.out.x HTK.out.y)
      clear ew hd w' x2 x3 y2 y3
      obtain ⟨x0, x1, x2, x3, x4, x5, x6, x7, x8, x9, x10, x11⟩ := HX1.out
      obtain ⟨y0, y1, y2, y3, y4, y5, y6, y7, y8, y9, y10, y11⟩ := HY1.out
      go_wp2_with fail
      refine (radarSeesS HS1.out o t HOK.out HTK.out d HDD.out).mono ?_
      rintro e w4 ⟨rfl, b4⟩
      have HS4 := hide (HS1.out.below b4)
      have HO4 := hide (HO1.out.keep (Ex.of (S := fun _ => False) b4) (fun e => e))
      have HX4 := hide (HX1.out.below b4)
      have HY4 := hide (HY1.out.below b4)
      have HE4 := hide (HE1.out.trans (Ex.of b4))
      clear b4 x0 x1 x2 x3 x4 x5 x6 x7 x8 x9 x10 x11 y0 y1 y2 y3 y4 y5 y6 y7 y8 y9 y10 y11 HS1 HO1 HX1 HY1 HE1
      cases hv : radP M o t
      · have HV := hide (show seeP M o t 0 = false from hv)
        clear hv
        go_wp2
        go_roundw
        case rel => exact ⟨i + 1, B1, by omega, by simp, HS4.out, HO4.out, HX4.out, HE4.out, bd_next0 HT.out.1 HT.out.2 HB.out (fun k hk => by subst hk; exact HV.out)⟩
        case measure => simp [intOf]; omega
      · have HV := hide (show seeP M o t 0 = true from hv)
        clear hv
        go_wp2_with fail
        go_upto_region 9 with fail
        have zS := conj24 HX4.out HY4.out
        go_region_held3 (fun w' => w'.cell? ⟨q, 0, none⟩ = some (.int .i64 o.id) ∧ w'.cell? ⟨q, 1, none⟩ = some (.int .i64 o.team) ∧ w'.cell? ⟨q, 2, none⟩ = some (.int .i64 o.x) ∧ w'.cell? ⟨q, 3, none⟩ = some (.int .i64 o.y) ∧ w'.cell? ⟨q, 4, none⟩ = some (.int .i64 o.depth) ∧ w'.cell? ⟨q, 5, none⟩ = some (.int .i64 o.speed) ∧ w'.cell? ⟨q, 6, none⟩ = some (.int .i64 o.mast) ∧ w'.cell? ⟨q, 7, none⟩ = some (.int .i64 o.noise) ∧ w'.cell? ⟨q, 8, none⟩ = some (.bool o.afloat) ∧ w'.cell? ⟨q, 9, none⟩ = some (.bool o.radar) ∧ w'.cell? ⟨q, 10, none⟩ = some (.bool o.sonar) ∧ w'.cell? ⟨q, 11, none⟩ = some (.bool o.ping) ∧ w'.cell? ⟨p, 0, none⟩ = some (.int .i64 t.id) ∧ w'.cell? ⟨p, 1, none⟩ = some (.int .i64 t.team) ∧ w'.cell? ⟨p, 2, none⟩ = some (.int .i64 t.x) ∧ w'.cell? ⟨p, 3, none⟩ = some (.int .i64 t.y) ∧ w'.cell? ⟨p, 4, none⟩ = some (.int .i64 t.depth) ∧ w'.cell? ⟨p, 5, none⟩ = some (.int .i64 t.speed) ∧ w'.cell? ⟨p, 6, none⟩ = some (.int .i64 t.mast) ∧ w'.cell? ⟨p, 7, none⟩ = some (.int .i64 t.noise) ∧ w'.cell? ⟨p, 8, none⟩ = some (.bool t.afloat) ∧ w'.cell? ⟨p, 9, none⟩ = some (.bool t.radar) ∧ w'.cell? ⟨p, 10, none⟩ = some (.bool t.sonar) ∧ w'.cell? ⟨p, 11, none⟩ = some (.bool t.ping)) (first | (with_reducible exact zS) | exact zS)
          (first
            | (go_at_call 56; refine (rGrade_any _ d).mono ?_; rintro e w5 ⟨rfl, ew⟩; rw [ew]; clear ew w5)
            | (go_at_call 55; refine (noteS_any (SCN.drew HS4.out) HB.out o t HOK.out HTK.out 0 (by omega) d (rgP d) HDD.out (by rw [HDD.out]; rfl)).mono ?_; rintro e w6 ⟨rfl, B2, hs6, hb6, ex6⟩; replace ex6 := Ex.of_drew ex6; have HS6 := hide hs6; have HO6 := hide (HO4.out.keep ex6 hbs); have HX6 := hide (HX4.out.keep ex6 hqs); have HY6 := hide (HY4.out.keep ex6 hps); have HE6 := hide (HE4.out.trans ex6); have HB6 := hide hb6; clear zS; have zS := conj24 HX6.out HY6.out; clear hs6 hb6 ex6))
        clear zS
        rename_i hh1
        clear hh1
        go_wp2
        go_roundw
        case rel => exact ⟨i + 1, B2, by omega, by simp, HS6.out, HO6.out, HX6.out, HE6.out, bd_next1 HT.out.1 HT.out.2 HB6.out (fun x => ⟨fun h => h.1, fun h => ⟨h, by rw [h]; exact HV.out⟩⟩)⟩
        case measure => simp [intOf]; omega

    · have hlti : ¬ (i : Int) < (G.length : Int) := by omega
      obtain rfl : i = G.length := by omega
      go_wp2
      go_end0
      exact ⟨rfl, B1, HS.out, HB.out.done HF.out (fun k hk => by subst hk; exact HR.out.2 M), HE.out⟩

set_option maxRecDepth 100000 in
set_option maxHeartbeats 4000000 in
theorem listen_any (w : World) (s : Nat) (A : List Shp) (v2 : Value) (ld tl : Int) (pg : Bool) (M : List Smk) (B : Brd) (h : SCN w s A v2 ld tl pg M B) (D : Shp → Shp → Nat → Prop) (hb : Bd D B) (o : Shp) (hm : o ∈ A) :
    Calls Try.prog 35 #[.pointer (some ⟨s, 0, none⟩), .agg #[.int .i64 o.id, .int .i64 o.team, .int .i64 o.x, .int .i64 o.y, .int .i64 o.depth, .int .i64 o.speed, .int .i64 o.mast, .int .i64 o.noise, .bool o.afloat, .bool o.radar, .bool o.sonar, .bool o.ping]] w (SwpPost w s A v2 ld tl pg M (DA D A M o (fun k => k = 1))) := by
  have ho : ShpOk o := by obtain ⟨C, h⟩ := h; exact h.ok o hm
  have hsl := h.lt
  have HE := hide (((Ex.refl (fun k => k = s) w).alloc (.cells (shpA o) 38)).alloc (.cells z48 65))
  have HX := hide ((BX.new w o).below (be1 _ (.cells z48 65)))
  have HS := hide (h.below (be2 w (.cells (shpA o) 38) (.cells z48 65)))
  have HO := hide (new_out (w.alloc (.cells (shpA o) 38)))
  have hsz : (w.alloc (.cells (shpA o) 38)).heap.size = w.heap.size + 1 := by simp
  have hrow : ∀ k, v2.ownBlock = some k → k < w.heap.size := fun k hk => h.row hk
  rw [hsz] at HO
  have HB := hide hb
  have HM := hide hm
  have HOK := hide ho
  have HROW := hide hrow
  clear h hb hm ho hsz hrow
  go_enter Try.func35, Try.ntmps35
  go_upto_region 2 with fail
  have hsa : #[.int .i64 o.id, .int .i64 o.team, .int .i64 o.x, .int .i64 o.y, .int .i64 o.depth, .int .i64 o.speed, .int .i64 o.mast, .int .i64 o.noise, .bool o.afloat, .bool o.radar, .bool o.sonar, .bool o.ping] = shpA o := rfl
  have hz48 : #[.int .i64 0, .int .i64 0, .int .i64 0, .int .i64 0, .int .i64 0, .int .i64 0, .int .i64 0, .int .i64 0, .int .i64 0, .int .i64 0, .int .i64 0, .int .i64 0, .int .i64 0, .int .i64 0, .int .i64 0, .int .i64 0, .int .i64 0, .int .i64 0, .int .i64 0, .int .i64 0, .int .i64 0, .int .i64 0, .int .i64 0, .int .i64 0, .int .i64 0, .int .i64 0, .int .i64 0, .int .i64 0, .int .i64 0, .int .i64 0, .int .i64 0, .int .i64 0, .int .i64 0, .int .i64 0, .int .i64 0, .int .i64 0, .int .i64 0, .int .i64 0, .int .i64 0, .int .i64 0, .int .i64 0, .int .i64 0, .int .i64 0, .int .i64 0, .int .i64 0, .int .i64 0, .int .i64 0, .int .i64 0] = z48 := rfl
  rw [hsa, hz48]
  clear hsa hz48
  generalize (w.alloc (.cells (shpA o) 38)).alloc (.cells z48 65) = w1 at *
  obtain ⟨nb, hnb⟩ : ∃ q, w.heap.size + 1 = q := ⟨_, rfl⟩
  rw [hnb] at HO ⊢
  have hbs : ¬ nb = s := by omega
  have hqs : ¬ w.heap.size = s := by omega
  have hqb : ¬ w.heap.size = nb := by omega
  have hnr : ∀ k, v2.ownBlock = some k → ¬ k = nb := fun k hk e => by have := HROW.out k hk; omega
  have HNR := hide hnr
  clear hnr
  have HQ0 := hide hnb
  obtain ⟨q, hq⟩ : ∃ q, w.heap.size = q := ⟨_, rfl⟩
  rw [hq] at HX hqs hqb ⊢
  have HQ := hide hq
  clear hq hnb HROW hsl
  have zS := BX.conj HX.out
  go_region_held3 (fun w' => w'.cell? ⟨q, 0, none⟩ = some (.int .i64 o.id) ∧ w'.cell? ⟨q, 1, none⟩ = some (.int .i64 o.team) ∧ w'.cell? ⟨q, 2, none⟩ = some (.int .i64 o.x) ∧ w'.cell? ⟨q, 3, none⟩ = some (.int .i64 o.y) ∧ w'.cell? ⟨q, 4, none⟩ = some (.int .i64 o.depth) ∧ w'.cell? ⟨q, 5, none⟩ = some (.int .i64 o.speed) ∧ w'.cell? ⟨q, 6, none⟩ = some (.int .i64 o.mast) ∧ w'.cell? ⟨q, 7, none⟩ = some (.int .i64 o.noise) ∧ w'.cell? ⟨q, 8, none⟩ = some (.bool o.afloat) ∧ w'.cell? ⟨q, 9, none⟩ = some (.bool o.radar) ∧ w'.cell? ⟨q, 10, none⟩ = some (.bool o.sonar) ∧ w'.cell? ⟨q, 11, none⟩ = some (.bool o.ping)) (first | (with_reducible exact zS) | exact zS)
    (first
      | (go_at_call 57; refine (passiveReachS (SCN.drew HS.out) o HOK.out).mono ?_; rintro e w2 ⟨r, rfl, hr1, hr2, b2⟩; (try replace b2 := of_drew b2); have HR := hide (And.intro hr1 hr2); have HX2 := hide (HX.out.below b2); have HS2 := hide (HS.out.below b2); have HO2 := hide (HO.out.keep (Ex.of (S := fun _ => False) b2) (fun e => e)); have HE2 := hide (HE.out.trans (Ex.of b2)); clear zS; have zS := BX.conj HX2.out; clear b2 hr1 hr2)
      | (go_at_call 52; refine (foesS_any HS2.out nb _ HO2.out hbs o HOK.out r HR.out.1).mono ?_; rintro e w3 ⟨G, F, rfl, ho3, hex3, hf⟩; have HO3 := hide ho3; have HF := hide hf; have HX3 := hide (HX2.out.keep hex3 hqb); have HS3 := hide (HS2.out.keep hex3 (fun e => hbs e.symm) HNR.out); have HE3 := hide (HE2.out.trans2 hex3 (fun j hj => .inr (by rw [hj, ← HQ0.out]; omega))); clear zS; have zS := BX.conj HX3.out; clear ho3 hf hex3))
  clear zS HX HS HO HE HX2 HS2 HO2 HE2
  rename_i hh0
  clear hh0
  have hG48 := HF.out.len
  go_wp2
  go_loopw [6] (fun si wr => ∃ (i : Nat) (B' : Brd), i ≤ G.length ∧ si = .int .i64 i ∧ SCN wr s A v2 ld tl pg M B' ∧ OutB wr nb F ∧ BX wr q o ∧ Ex (fun k => k = s) w wr ∧ Bd (DN D A M o G (fun k => k = 1) i) B') (fun si _ => G.length - (intOf si).toNat)
  case atStart => exact ⟨0, B, by omega, rfl, HS3.out, HO3.out, HX3.out, HE3.out, HB.out.zero⟩
  case round =>
    clear HX3 HS3 HO3 HE3 HB
    obtain ⟨i, B1, hi, rfl, hs, hob, hx, hex, hbd⟩ := hrel
    have HS := hide hs
    have HO := hide hob
    have HX := hide hx
    have HE := hide hex
    have HB := hide hbd
    clear hs hob hx hex hbd
    by_cases hlt : i < G.length
    · have hlti : (i : Int) < (G.length : Int) := by omega
      have hi48 : (i : Int) < 48 := by omega
      obtain ⟨z, hz⟩ : ∃ z, G[i]? = some z := ⟨_, List.getElem?_eq_getElem hlt⟩
      obtain ⟨t, ht, hne⟩ := HF.out.lt z (List.mem_of_getElem? hz)
      have hzA := (List.getElem?_eq_some_iff.1 ht).1
      have htm := List.mem_of_getElem? ht
      have htok : ShpOk t ∧ A.length ≤ 48 := by obtain ⟨C, h⟩ := HS.out; exact ⟨h.ok t htm, h.n⟩
      have hz48 : (z : Int) < 48 := by have := htok.2; omega
      have HT := hide (And.intro hz ht)
      have HTK := hide htok.1
      have co := HO.out.c i (by omega)
      rw [HF.out.hold i z hz] at co
      have u0 := HS.out.ship ht (j := 0) (v := .int .i64 t.id) rfl
      have u1 := HS.out.ship ht (j := 1) (v := .int .i64 t.team) rfl
      have u2 := HS.out.ship ht (j := 2) (v := .int .i64 t.x) rfl
      have u3 := HS.out.ship ht (j := 3) (v := .int .i64 t.y) rfl
      have u4 := HS.out.ship ht (j := 4) (v := .int .i64 t.depth) rfl
      have u5 := HS.out.ship ht (j := 5) (v := .int .i64 t.speed) rfl
      have u6 := HS.out.ship ht (j := 6) (v := .int .i64 t.mast) rfl
      have u7 := HS.out.ship ht (j := 7) (v := .int .i64 t.noise) rfl
      have u8 := HS.out.ship ht (j := 8) (v := .bool t.afloat) rfl
      have u9 := HS.out.ship ht (j := 9) (v := .bool t.radar) rfl
      have u10 := HS.out.ship ht (j := 10) (v := .bool t.sonar) rfl
      have u11 := HS.out.ship ht (j := 11) (v := .bool t.ping) rfl
      rw [Nat.add_zero] at u0
      clear hz ht hne hzA htm htok
      go_upto_region 6 with fail
      have hN1 : ¬ nb = wr.heap.size := fun e => by have := HO.out.lt; omega
      have hN2 : ¬ s = wr.heap.size := fun e => by have := HS.out.lt; omega
      have zS : wr.cell? ⟨nb, i, none⟩ = some (.int .i64 z) ∧ wr.cell? ⟨s, 1137 + z * 12, none⟩ = some (.int .i64 t.id) ∧ wr.cell? ⟨s, 1137 + z * 12 + 1, none⟩ = some (.int .i64 t.team) ∧ wr.cell? ⟨s, 1137 + z * 12 + 2, none⟩ = some (.int .i64 t.x) ∧ wr.cell? ⟨s, 1137 + z * 12 + 3, none⟩ = some (.int .i64 t.y) ∧ wr.cell? ⟨s, 1137 + z * 12 + 4, none⟩ = some (.int .i64 t.depth) ∧ wr.cell? ⟨s, 1137 + z * 12 + 5, none⟩ = some (.int .i64 t.speed) ∧ wr.cell? ⟨s, 1137 + z * 12 + 6, none⟩ = some (.int .i64 t.mast) ∧ wr.cell? ⟨s, 1137 + z * 12 + 7, none⟩ = some (.int .i64 t.noise) ∧ wr.cell? ⟨s, 1137 + z * 12 + 8, none⟩ = some (.bool t.afloat) ∧ wr.cell? ⟨s, 1137 + z * 12 + 9, none⟩ = some (.bool t.radar) ∧ wr.cell? ⟨s, 1137 + z * 12 + 10, none⟩ = some (.bool t.sonar) ∧ wr.cell? ⟨s, 1137 + z * 12 + 11, none⟩ = some (.bool t.ping) := ⟨co, u0, u1, u2, u3, u4, u5, u6, u7, u8, u9, u10, u11⟩
      go_region_held3 (fun w' => w'.cell? ⟨nb, i, none⟩ = some (.int .i64 z) ∧ w'.cell? ⟨s, 1137 + z * 12, none⟩ = some (.int .i64 t.id) ∧ w'.cell? ⟨s, 1137 + z * 12 + 1, none⟩ = some (.int .i64 t.team) ∧ w'.cell? ⟨s, 1137 + z * 12 + 2, none⟩ = some (.int .i64 t.x) ∧ w'.cell? ⟨s, 1137 + z * 12 + 3, none⟩ = some (.int .i64 t.y) ∧ w'.cell? ⟨s, 1137 + z * 12 + 4, none⟩ = some (.int .i64 t.depth) ∧ w'.cell? ⟨s, 1137 + z * 12 + 5, none⟩ = some (.int .i64 t.speed) ∧ w'.cell? ⟨s, 1137 + z * 12 + 6, none⟩ = some (.int .i64 t.mast) ∧ w'.cell? ⟨s, 1137 + z * 12 + 7, none⟩ = some (.int .i64 t.noise) ∧ w'.cell? ⟨s, 1137 + z * 12 + 8, none⟩ = some (.bool t.afloat) ∧ w'.cell? ⟨s, 1137 + z * 12 + 9, none⟩ = some (.bool t.radar) ∧ w'.cell? ⟨s, 1137 + z * 12 + 10, none⟩ = some (.bool t.sonar) ∧ w'.cell? ⟨s, 1137 + z * 12 + 11, none⟩ = some (.bool t.ping)) (first | (with_reducible exact zS) | exact zS | (refine s13_ex (S := fun k => k = wr.heap.size) zS ?_ hN1 hN2; repeat (first | exact Ex.refl _ _ | refine Ex.drew ?_ | refine Ex.alloc ?_ _ | refine Ex.set ?_ rfl _))) (fail)
      clear co zS u0 u1 u2 u3 u4 u5 u6 u7 u8 u9 u10 u11
      have hst : #[.int .i64 t.id, .int .i64 t.team, .int .i64 t.x, .int .i64 t.y, .int .i64 t.depth, .int .i64 t.speed, .int .i64 t.mast, .int .i64 t.noise, .bool t.afloat, .bool t.radar, .bool t.sonar, .bool t.ping] = shpA t := rfl
      rw [hst]
      clear hst
      have HY1 := hide (BX.new wr t).drew
      have HS1 := hide (HS.out.below (be1 wr (.cells (shpA t) 38))).drew
      have HX1 := hide (HX.out.below (be1 wr (.cells (shpA t) 38))).drew
      have HO1 := hide (HO.out.keep ((Ex.refl (fun _ => False) wr).alloc (.cells (shpA t) 38)) (fun e => e)).drew
      have HE1 := hide (HE.out.alloc (.cells (shpA t) 38)).drew
      generalize (wr.alloc (.cells (shpA t) 38)).drew = wa at *
      obtain ⟨p, hp⟩ : ∃ p, wr.heap.size = p := ⟨_, rfl⟩
      rw [hp] at HY1 hN2 ⊢
      have hps : ¬ p = s := fun e => hN2 e.symm
      clear hp hN1 hN2 HS HX HO HE
      have x2 := HX1.out.c2
      have x3 := HX1.out.c3
      have y2 := HY1.out.c2
      have y3 := HY1.out.c3
      go_wp2_with fail
      refine (distSq_any _ o.x o.y t.x t.y HOK.out.x HOK.out.y HTK.out.x HTK.out.y).mono ?_
      rintro e w' ⟨rfl, ew⟩
      rw [ew]
      obtain ⟨d, hd⟩ : ∃ d, dsq o.x o.y t.x t.y = d := ⟨_, rfl⟩
      rw [hd]
      have HDD := hide (show d = dstP o t from hd.symm)
      have hd0 := hide (show 0 ≤ d ∧ d ≤ 8796093022208 by rw [← hd]; exact dsq_rng HOK.out.x HOK.out.y HTK.out.x HTK.out.y)
      clear ew hd w' x2 x3 y2 y3
      have HSON : Hid (o.sonar = true) := by
        cases e : o.sonar
        · have := HF.out.neg (HR.out.2.2 e)
          rw [this] at hlt
          simp at hlt
        · rfl
      obtain ⟨x0, x1, x2, x3, x4, x5, x6, x7, x8, x9, x10, x11⟩ := HX1.out
      obtain ⟨y0, y1, y2, y3, y4, y5, y6, y7, y8, y9, y10, y11⟩ := HY1.out
      go_wp2_with fail
      refine (pExcess_any _ o t d HOK.out HTK.out).mono ?_
      rintro e w4 ⟨rfl, b4⟩
      have HS4 := hide (HS1.out.below b4)
      have HO4 := hide (HO1.out.keep (Ex.of (S := fun _ => False) b4) (fun e => e))
      have HX4 := hide (HX1.out.below b4)
      have HY4 := hide (HY1.out.below b4)
      have HE4 := hide (HE1.out.trans (Ex.of b4))
      clear b4 x0 x1 x2 x3 x4 x5 x6 x7 x8 x9 x10 x11 y0 y1 y2 y3 y4 y5 y6 y7 y8 y9 y10 y11 HS1 HO1 HX1 HY1 HE1
      obtain ⟨ex, hex⟩ : ∃ ex, excP o t d = ex := ⟨_, rfl⟩
      rw [hex]
      have HEX := hide (show excP o t (dstP o t) = ex by rw [← HDD.out]; exact hex)
      clear hex
      by_cases hv : 10 ≤ ex
      · have HV := hide (show seeP M o t 1 = true by show (o.sonar && decide (10 ≤ excP o t (dstP o t))) = true; rw [HSON.out, HEX.out]; simpa using hv)
        go_wp2_with fail
        go_upto_region 10 with fail
        have zS := conj24 HX4.out HY4.out
        go_region_held3 (fun w' => w'.cell? ⟨q, 0, none⟩ = some (.int .i64 o.id) ∧ w'.cell? ⟨q, 1, none⟩ = some (.int .i64 o.team) ∧ w'.cell? ⟨q, 2, none⟩ = some (.int .i64 o.x) ∧ w'.cell? ⟨q, 3, none⟩ = some (.int .i64 o.y) ∧ w'.cell? ⟨q, 4, none⟩ = some (.int .i64 o.depth) ∧ w'.cell? ⟨q, 5, none⟩ = some (.int .i64 o.speed) ∧ w'.cell? ⟨q, 6, none⟩ = some (.int .i64 o.mast) ∧ w'.cell? ⟨q, 7, none⟩ = some (.int .i64 o.noise) ∧ w'.cell? ⟨q, 8, none⟩ = some (.bool o.afloat) ∧ w'.cell? ⟨q, 9, none⟩ = some (.bool o.radar) ∧ w'.cell? ⟨q, 10, none⟩ = some (.bool o.sonar) ∧ w'.cell? ⟨q, 11, none⟩ = some (.bool o.ping) ∧ w'.cell? ⟨p, 0, none⟩ = some (.int .i64 t.id) ∧ w'.cell? ⟨p, 1, none⟩ = some (.int .i64 t.team) ∧ w'.cell? ⟨p, 2, none⟩ = some (.int .i64 t.x) ∧ w'.cell? ⟨p, 3, none⟩ = some (.int .i64 t.y) ∧ w'.cell? ⟨p, 4, none⟩ = some (.int .i64 t.depth) ∧ w'.cell? ⟨p, 5, none⟩ = some (.int .i64 t.speed) ∧ w'.cell? ⟨p, 6, none⟩ = some (.int .i64 t.mast) ∧ w'.cell? ⟨p, 7, none⟩ = some (.int .i64 t.noise) ∧ w'.cell? ⟨p, 8, none⟩ = some (.bool t.afloat) ∧ w'.cell? ⟨p, 9, none⟩ = some (.bool t.radar) ∧ w'.cell? ⟨p, 10, none⟩ = some (.bool t.sonar) ∧ w'.cell? ⟨p, 11, none⟩ = some (.bool t.ping)) (first | (with_reducible exact zS) | exact zS)
          (first
            | (go_at_call 59; refine (pGrade_any _ ex).mono ?_; rintro e w5 ⟨rfl, ew⟩; rw [ew]; clear ew w5)
            | (go_at_call 55; refine (noteS_any (SCN.drew HS4.out) HB.out o t HOK.out HTK.out 1 (by omega) d (pgP ex) HDD.out (by rw [← HEX.out]; rfl)).mono ?_; rintro e w6 ⟨rfl, B2, hs6, hb6, ex6⟩; replace ex6 := Ex.of_drew ex6; have HS6 := hide hs6; have HO6 := hide (HO4.out.keep ex6 hbs); have HX6 := hide (HX4.out.keep ex6 hqs); have HY6 := hide (HY4.out.keep ex6 hps); have HE6 := hide (HE4.out.trans ex6); have HB6 := hide hb6; clear zS; have zS := conj24 HX6.out HY6.out; clear hs6 hb6 ex6))
        clear zS
        rename_i hh1
        clear hh1
        go_wp2
        go_roundw
        case rel => exact ⟨i + 1, B2, by omega, by simp, HS6.out, HO6.out, HX6.out, HE6.out, bd_next1 HT.out.1 HT.out.2 HB6.out (fun x => ⟨fun h => h.1, fun h => ⟨h, by rw [h]; exact HV.out⟩⟩)⟩
        case measure => simp [intOf]; omega
      · have HV := hide (show seeP M o t 1 = false by show (o.sonar && decide (10 ≤ excP o t (dstP o t))) = false; rw [HSON.out, HEX.out]; simpa using hv)
        go_wp2
        go_roundw
        case rel => exact ⟨i + 1, B1, by omega, by simp, HS4.out, HO4.out, HX4.out, HE4.out, bd_next0 HT.out.1 HT.out.2 HB.out (fun k hk => by subst hk; exact HV.out)⟩
        case measure => simp [intOf]; omega

    · have hlti : ¬ (i : Int) < (G.length : Int) := by omega
      obtain rfl : i = G.length := by omega
      go_wp2
      go_end0
      exact ⟨rfl, B1, HS.out, HB.out.done HF.out (fun k hk => by subst hk; exact HR.out.2.1 M), HE.out⟩

set_option maxRecDepth 100000 in
set_option maxHeartbeats 4000000 in
theorem workPings_any (w : World) (s : Nat) (A : List Shp) (v2 : Value) (ld tl : Int) (pg : Bool) (M : List Smk) (B : Brd) (h : SCN w s A v2 ld tl pg M B) (D : Shp → Shp → Nat → Prop) (hb : Bd D B) (o : Shp) (hm : o ∈ A) :
    Calls Try.prog 36 #[.pointer (some ⟨s, 0, none⟩), .agg #[.int .i64 o.id, .int .i64 o.team, .int .i64 o.x, .int .i64 o.y, .int .i64 o.depth, .int .i64 o.speed, .int .i64 o.mast, .int .i64 o.noise, .bool o.afloat, .bool o.radar, .bool o.sonar, .bool o.ping]] w (SwpPost w s A v2 ld tl pg M (DA D A M o (fun k => k = 2 ∨ k = 3))) := by
  have ho : ShpOk o := by obtain ⟨C, h⟩ := h; exact h.ok o hm
  have hsl := h.lt
  have HE := hide (((Ex.refl (fun k => k = s) w).alloc (.cells (shpA o) 38)).alloc (.cells z48 65))
  have HX := hide ((BX.new w o).below (be1 _ (.cells z48 65)))
  have HS := hide (h.below (be2 w (.cells (shpA o) 38) (.cells z48 65)))
  have HO := hide (new_out (w.alloc (.cells (shpA o) 38)))
  have hsz : (w.alloc (.cells (shpA o) 38)).heap.size = w.heap.size + 1 := by simp
  have hrow : ∀ k, v2.ownBlock = some k → k < w.heap.size := fun k hk => h.row hk
  rw [hsz] at HO
  have HB := hide hb
  have HM := hide hm
  have HOK := hide ho
  have HROW := hide hrow
  clear h hb hm ho hsz hrow
  go_enter Try.func36, Try.ntmps36
  go_upto_region 2 with fail
  have hsa : #[.int .i64 o.id, .int .i64 o.team, .int .i64 o.x, .int .i64 o.y, .int .i64 o.depth, .int .i64 o.speed, .int .i64 o.mast, .int .i64 o.noise, .bool o.afloat, .bool o.radar, .bool o.sonar, .bool o.ping] = shpA o := rfl
  have hz48 : #[.int .i64 0, .int .i64 0, .int .i64 0, .int .i64 0, .int .i64 0, .int .i64 0, .int .i64 0, .int .i64 0, .int .i64 0, .int .i64 0, .int .i64 0, .int .i64 0, .int .i64 0, .int .i64 0, .int .i64 0, .int .i64 0, .int .i64 0, .int .i64 0, .int .i64 0, .int .i64 0, .int .i64 0, .int .i64 0, .int .i64 0, .int .i64 0, .int .i64 0, .int .i64 0, .int .i64 0, .int .i64 0, .int .i64 0, .int .i64 0, .int .i64 0, .int .i64 0, .int .i64 0, .int .i64 0, .int .i64 0, .int .i64 0, .int .i64 0, .int .i64 0, .int .i64 0, .int .i64 0, .int .i64 0, .int .i64 0, .int .i64 0, .int .i64 0, .int .i64 0, .int .i64 0, .int .i64 0, .int .i64 0] = z48 := rfl
  rw [hsa, hz48]
  clear hsa hz48
  generalize (w.alloc (.cells (shpA o) 38)).alloc (.cells z48 65) = w1 at *
  obtain ⟨nb, hnb⟩ : ∃ q, w.heap.size + 1 = q := ⟨_, rfl⟩
  rw [hnb] at HO ⊢
  have hbs : ¬ nb = s := by omega
  have hqs : ¬ w.heap.size = s := by omega
  have hqb : ¬ w.heap.size = nb := by omega
  have hnr : ∀ k, v2.ownBlock = some k → ¬ k = nb := fun k hk e => by have := HROW.out k hk; omega
  have HNR := hide hnr
  clear hnr
  have HQ0 := hide hnb
  obtain ⟨q, hq⟩ : ∃ q, w.heap.size = q := ⟨_, rfl⟩
  rw [hq] at HX hqs hqb ⊢
  have HQ := hide hq
  clear hq hnb HROW hsl
  have zS := BX.conj HX.out
  go_region_held3 (fun w' => w'.cell? ⟨q, 0, none⟩ = some (.int .i64 o.id) ∧ w'.cell? ⟨q, 1, none⟩ = some (.int .i64 o.team) ∧ w'.cell? ⟨q, 2, none⟩ = some (.int .i64 o.x) ∧ w'.cell? ⟨q, 3, none⟩ = some (.int .i64 o.y) ∧ w'.cell? ⟨q, 4, none⟩ = some (.int .i64 o.depth) ∧ w'.cell? ⟨q, 5, none⟩ = some (.int .i64 o.speed) ∧ w'.cell? ⟨q, 6, none⟩ = some (.int .i64 o.mast) ∧ w'.cell? ⟨q, 7, none⟩ = some (.int .i64 o.noise) ∧ w'.cell? ⟨q, 8, none⟩ = some (.bool o.afloat) ∧ w'.cell? ⟨q, 9, none⟩ = some (.bool o.radar) ∧ w'.cell? ⟨q, 10, none⟩ = some (.bool o.sonar) ∧ w'.cell? ⟨q, 11, none⟩ = some (.bool o.ping)) (first | (with_reducible exact zS) | exact zS)
    (first
      | (go_at_call 60; refine (pingReachS (SCN.drew HS.out) o HM.out).mono ?_; rintro e w2 ⟨r, rfl, hr1, hr2, b2⟩; (try replace b2 := of_drew b2); have HR := hide (And.intro hr1 hr2); have HX2 := hide (HX.out.below b2); have HS2 := hide (HS.out.below b2); have HO2 := hide (HO.out.keep (Ex.of (S := fun _ => False) b2) (fun e => e)); have HE2 := hide (HE.out.trans (Ex.of b2)); clear zS; have zS := BX.conj HX2.out; clear b2 hr1 hr2)
      | (go_at_call 52; refine (foesS_any HS2.out nb _ HO2.out hbs o HOK.out r HR.out.1).mono ?_; rintro e w3 ⟨G, F, rfl, ho3, hex3, hf⟩; have HO3 := hide ho3; have HF := hide hf; have HX3 := hide (HX2.out.keep hex3 hqb); have HS3 := hide (HS2.out.keep hex3 (fun e => hbs e.symm) HNR.out); have HE3 := hide (HE2.out.trans2 hex3 (fun j hj => .inr (by rw [hj, ← HQ0.out]; omega))); clear zS; have zS := BX.conj HX3.out; clear ho3 hf hex3))
  clear zS HX HS HO HE HX2 HS2 HO2 HE2
  rename_i hh0
  clear hh0
  have hG48 := HF.out.len
  go_wp2
  go_loopw [6] (fun si wr => ∃ (i : Nat) (B' : Brd), i ≤ G.length ∧ si = .int .i64 i ∧ SCN wr s A v2 ld tl pg M B' ∧ OutB wr nb F ∧ BX wr q o ∧ Ex (fun k => k = s) w wr ∧ Bd (DN D A M o G (fun k => k = 2 ∨ k = 3) i) B') (fun si _ => G.length - (intOf si).toNat)
  case atStart => exact ⟨0, B, by omega, rfl, HS3.out, HO3.out, HX3.out, HE3.out, HB.out.zero⟩
  case round =>
    clear HX3 HS3 HO3 HE3 HB
    obtain ⟨i, B1, hi, rfl, hs, hob, hx, hex, hbd⟩ := hrel
    have HS := hide hs
    have HO := hide hob
    have HX := hide hx
    have HE := hide hex
    have HB := hide hbd
    clear hs hob hx hex hbd
    by_cases hlt : i < G.length
    · have hlti : (i : Int) < (G.length : Int) := by omega
      have hi48 : (i : Int) < 48 := by omega
      obtain ⟨z, hz⟩ : ∃ z, G[i]? = some z := ⟨_, List.getElem?_eq_getElem hlt⟩
      obtain ⟨t, ht, hne⟩ := HF.out.lt z (List.mem_of_getElem? hz)
      have hzA := (List.getElem?_eq_some_iff.1 ht).1
      have htm := List.mem_of_getElem? ht
      have htok : ShpOk t ∧ A.length ≤ 48 := by obtain ⟨C, h⟩ := HS.out; exact ⟨h.ok t htm, h.n⟩
      have hz48 : (z : Int) < 48 := by have := htok.2; omega
      have HT := hide (And.intro hz ht)
      have HTK := hide htok.1
      have co := HO.out.c i (by omega)
      rw [HF.out.hold i z hz] at co
      have u0 := HS.out.ship ht (j := 0) (v := .int .i64 t.id) rfl
      have u1 := HS.out.ship ht (j := 1) (v := .int .i64 t.team) rfl
      have u2 := HS.out.ship ht (j := 2) (v := .int .i64 t.x) rfl
      have u3 := HS.out.ship ht (j := 3) (v := .int .i64 t.y) rfl
      have u4 := HS.out.ship ht (j := 4) (v := .int .i64 t.depth) rfl
      have u5 := HS.out.ship ht (j := 5) (v := .int .i64 t.speed) rfl
      have u6 := HS.out.ship ht (j := 6) (v := .int .i64 t.mast) rfl
      have u7 := HS.out.ship ht (j := 7) (v := .int .i64 t.noise) rfl
      have u8 := HS.out.ship ht (j := 8) (v := .bool t.afloat) rfl
      have u9 := HS.out.ship ht (j := 9) (v := .bool t.radar) rfl
      have u10 := HS.out.ship ht (j := 10) (v := .bool t.sonar) rfl
      have u11 := HS.out.ship ht (j := 11) (v := .bool t.ping) rfl
      rw [Nat.add_zero] at u0
      clear hz ht hne hzA htm htok
      go_upto_region 6 with fail
      have hN1 : ¬ nb = wr.heap.size := fun e => by have := HO.out.lt; omega
      have hN2 : ¬ s = wr.heap.size := fun e => by have := HS.out.lt; omega
      have zS : wr.cell? ⟨nb, i, none⟩ = some (.int .i64 z) ∧ wr.cell? ⟨s, 1137 + z * 12, none⟩ = some (.int .i64 t.id) ∧ wr.cell? ⟨s, 1137 + z * 12 + 1, none⟩ = some (.int .i64 t.team) ∧ wr.cell? ⟨s, 1137 + z * 12 + 2, none⟩ = some (.int .i64 t.x) ∧ wr.cell? ⟨s, 1137 + z * 12 + 3, none⟩ = some (.int .i64 t.y) ∧ wr.cell? ⟨s, 1137 + z * 12 + 4, none⟩ = some (.int .i64 t.depth) ∧ wr.cell? ⟨s, 1137 + z * 12 + 5, none⟩ = some (.int .i64 t.speed) ∧ wr.cell? ⟨s, 1137 + z * 12 + 6, none⟩ = some (.int .i64 t.mast) ∧ wr.cell? ⟨s, 1137 + z * 12 + 7, none⟩ = some (.int .i64 t.noise) ∧ wr.cell? ⟨s, 1137 + z * 12 + 8, none⟩ = some (.bool t.afloat) ∧ wr.cell? ⟨s, 1137 + z * 12 + 9, none⟩ = some (.bool t.radar) ∧ wr.cell? ⟨s, 1137 + z * 12 + 10, none⟩ = some (.bool t.sonar) ∧ wr.cell? ⟨s, 1137 + z * 12 + 11, none⟩ = some (.bool t.ping) := ⟨co, u0, u1, u2, u3, u4, u5, u6, u7, u8, u9, u10, u11⟩
      go_region_held3 (fun w' => w'.cell? ⟨nb, i, none⟩ = some (.int .i64 z) ∧ w'.cell? ⟨s, 1137 + z * 12, none⟩ = some (.int .i64 t.id) ∧ w'.cell? ⟨s, 1137 + z * 12 + 1, none⟩ = some (.int .i64 t.team) ∧ w'.cell? ⟨s, 1137 + z * 12 + 2, none⟩ = some (.int .i64 t.x) ∧ w'.cell? ⟨s, 1137 + z * 12 + 3, none⟩ = some (.int .i64 t.y) ∧ w'.cell? ⟨s, 1137 + z * 12 + 4, none⟩ = some (.int .i64 t.depth) ∧ w'.cell? ⟨s, 1137 + z * 12 + 5, none⟩ = some (.int .i64 t.speed) ∧ w'.cell? ⟨s, 1137 + z * 12 + 6, none⟩ = some (.int .i64 t.mast) ∧ w'.cell? ⟨s, 1137 + z * 12 + 7, none⟩ = some (.int .i64 t.noise) ∧ w'.cell? ⟨s, 1137 + z * 12 + 8, none⟩ = some (.bool t.afloat) ∧ w'.cell? ⟨s, 1137 + z * 12 + 9, none⟩ = some (.bool t.radar) ∧ w'.cell? ⟨s, 1137 + z * 12 + 10, none⟩ = some (.bool t.sonar) ∧ w'.cell? ⟨s, 1137 + z * 12 + 11, none⟩ = some (.bool t.ping)) (first | (with_reducible exact zS) | exact zS | (refine s13_ex (S := fun k => k = wr.heap.size) zS ?_ hN1 hN2; repeat (first | exact Ex.refl _ _ | refine Ex.drew ?_ | refine Ex.alloc ?_ _ | refine Ex.set ?_ rfl _))) (fail)
      clear co zS u0 u1 u2 u3 u4 u5 u6 u7 u8 u9 u10 u11
      have hst : #[.int .i64 t.id, .int .i64 t.team, .int .i64 t.x, .int .i64 t.y, .int .i64 t.depth, .int .i64 t.speed, .int .i64 t.mast, .int .i64 t.noise, .bool t.afloat, .bool t.radar, .bool t.sonar, .bool t.ping] = shpA t := rfl
      rw [hst]
      clear hst
      have HY1 := hide (BX.new wr t).drew
      have HS1 := hide (HS.out.below (be1 wr (.cells (shpA t) 38))).drew
      have HX1 := hide (HX.out.below (be1 wr (.cells (shpA t) 38))).drew
      have HO1 := hide (HO.out.keep ((Ex.refl (fun _ => False) wr).alloc (.cells (shpA t) 38)) (fun e => e)).drew
      have HE1 := hide (HE.out.alloc (.cells (shpA t) 38)).drew
      generalize (wr.alloc (.cells (shpA t) 38)).drew = wa at *
      obtain ⟨p, hp⟩ : ∃ p, wr.heap.size = p := ⟨_, rfl⟩
      rw [hp] at HY1 hN2 ⊢
      have hps : ¬ p = s := fun e => hN2 e.symm
      clear hp hN1 hN2 HS HX HO HE
      have x2 := HX1.out.c2
      have x3 := HX1.out.c3
      have y2 := HY1.out.c2
      have y3 := HY1.out.c3
      go_wp2_with fail
      refine (distSq_any _ o.x o.y t.x t.y HOK.out.x HOK.out.y HTK.out.x HTK.out.y).mono ?_
      rintro e w' ⟨rfl, ew⟩
      rw [ew]
      obtain ⟨d, hd⟩ : ∃ d, dsq o.x o.y t.x t.y = d := ⟨_, rfl⟩
      rw [hd]
      have HDD := hide (show d = dstP o t from hd.symm)
      have hd0 := hide (show 0 ≤ d ∧ d ≤ 8796093022208 by rw [← hd]; exact dsq_rng HOK.out.x HOK.out.y HTK.out.x HTK.out.y)
      clear ew hd w' x2 x3 y2 y3
      obtain ⟨x0, x1, x2, x3, x4, x5, x6, x7, x8, x9, x10, x11⟩ := HX1.out
      go_wp2_with fail
      refine (finds_any _ o d).mono ?_
      rintro e w4 ⟨rfl, b4⟩
      have HS4 := hide (HS1.out.below b4)
      have HO4 := hide (HO1.out.keep (Ex.of (S := fun _ => False) b4) (fun e => e))
      have HX4 := hide (HX1.out.below b4)
      have HY4 := hide (HY1.out.below b4)
      have HE4 := hide (HE1.out.trans (Ex.of b4))
      clear b4 x0 x1 x2 x3 x4 x5 x6 x7 x8 x9 x10 x11 HS1 HO1 HX1 HY1 HE1
      cases hv : findP o d
      · have HV := hide (show seeP M o t 2 = false by show findP o (dstP o t) = false; rw [← HDD.out]; exact hv)
        clear hv
        obtain ⟨x0, x1, x2, x3, x4, x5, x6, x7, x8, x9, x10, x11⟩ := HX4.out
        obtain ⟨y0, y1, y2, y3, y4, y5, y6, y7, y8, y9, y10, y11⟩ := HY4.out
        go_wp2_with fail
        refine (hears_any _ o t d).mono ?_
        rintro e w7 ⟨rfl, b7⟩
        have HS7 := hide (HS4.out.below b7)
        have HO7 := hide (HO4.out.keep (Ex.of (S := fun _ => False) b7) (fun e => e))
        have HX7 := hide (HX4.out.below b7)
        have HY7 := hide (HY4.out.below b7)
        have HE7 := hide (HE4.out.trans (Ex.of b7))
        clear b7 x0 x1 x2 x3 x4 x5 x6 x7 x8 x9 x10 x11 y0 y1 y2 y3 y4 y5 y6 y7 y8 y9 y10 y11 HS4 HO4 HX4 HY4 HE4
        cases hv : hearP o t d
        · have HV3 := hide (show seeP M o t 3 = false by show hearP o t (dstP o t) = false; rw [← HDD.out]; exact hv)
          clear hv
          go_wp2
          go_roundw
          case rel => exact ⟨i + 1, B1, by omega, by simp, HS7.out, HO7.out, HX7.out, HE7.out, bd_next0 HT.out.1 HT.out.2 HB.out (fun k hk => by rcases hk with rfl | rfl; exact HV.out; exact HV3.out)⟩
          case measure => simp [intOf]; omega
        · have HV3 := hide (show seeP M o t 3 = true by show hearP o t (dstP o t) = true; rw [← HDD.out]; exact hv)
          clear hv
          obtain ⟨x0, x1, x2, x3, x4, x5, x6, x7, x8, x9, x10, x11⟩ := HX7.out
          obtain ⟨y0, y1, y2, y3, y4, y5, y6, y7, y8, y9, y10, y11⟩ := HY7.out
          go_wp2_with fail
          refine (noteS_any HS7.out HB.out o t HOK.out HTK.out 3 (by omega) d 1 HDD.out rfl).mono ?_
          rintro e w8 ⟨rfl, B3, hs8, hb8, ex8⟩
          have HS8 := hide hs8
          have HO8 := hide (HO7.out.keep ex8 hbs)
          have HX8 := hide (HX7.out.keep ex8 hqs)
          have HY8 := hide (HY7.out.keep ex8 hps)
          have HE8 := hide (HE7.out.trans ex8)
          have HB8 := hide hb8
          clear hs8 hb8 ex8 x0 x1 x2 x3 x4 x5 x6 x7 x8 x9 x10 x11 y0 y1 y2 y3 y4 y5 y6 y7 y8 y9 y10 y11
          go_wp2
          go_roundw
          case rel => exact ⟨i + 1, B3, by omega, by simp, HS8.out, HO8.out, HX8.out, HE8.out, bd_next1 HT.out.1 HT.out.2 HB8.out (only3 HV.out HV3.out)⟩
          case measure => simp [intOf]; omega
      · have HV := hide (show seeP M o t 2 = true by show findP o (dstP o t) = true; rw [← HDD.out]; exact hv)
        clear hv
        go_wp2_with fail
        go_upto_region 9 with fail
        have zS := conj24 HX4.out HY4.out
        go_region_held3 (fun w' => w'.cell? ⟨q, 0, none⟩ = some (.int .i64 o.id) ∧ w'.cell? ⟨q, 1, none⟩ = some (.int .i64 o.team) ∧ w'.cell? ⟨q, 2, none⟩ = some (.int .i64 o.x) ∧ w'.cell? ⟨q, 3, none⟩ = some (.int .i64 o.y) ∧ w'.cell? ⟨q, 4, none⟩ = some (.int .i64 o.depth) ∧ w'.cell? ⟨q, 5, none⟩ = some (.int .i64 o.speed) ∧ w'.cell? ⟨q, 6, none⟩ = some (.int .i64 o.mast) ∧ w'.cell? ⟨q, 7, none⟩ = some (.int .i64 o.noise) ∧ w'.cell? ⟨q, 8, none⟩ = some (.bool o.afloat) ∧ w'.cell? ⟨q, 9, none⟩ = some (.bool o.radar) ∧ w'.cell? ⟨q, 10, none⟩ = some (.bool o.sonar) ∧ w'.cell? ⟨q, 11, none⟩ = some (.bool o.ping) ∧ w'.cell? ⟨p, 0, none⟩ = some (.int .i64 t.id) ∧ w'.cell? ⟨p, 1, none⟩ = some (.int .i64 t.team) ∧ w'.cell? ⟨p, 2, none⟩ = some (.int .i64 t.x) ∧ w'.cell? ⟨p, 3, none⟩ = some (.int .i64 t.y) ∧ w'.cell? ⟨p, 4, none⟩ = some (.int .i64 t.depth) ∧ w'.cell? ⟨p, 5, none⟩ = some (.int .i64 t.speed) ∧ w'.cell? ⟨p, 6, none⟩ = some (.int .i64 t.mast) ∧ w'.cell? ⟨p, 7, none⟩ = some (.int .i64 t.noise) ∧ w'.cell? ⟨p, 8, none⟩ = some (.bool t.afloat) ∧ w'.cell? ⟨p, 9, none⟩ = some (.bool t.radar) ∧ w'.cell? ⟨p, 10, none⟩ = some (.bool t.sonar) ∧ w'.cell? ⟨p, 11, none⟩ = some (.bool t.ping)) (first | (with_reducible exact zS) | exact zS)
          (first
            | (go_at_call 62; refine (eGrade_any _ d hd0.out.1 hd0.out.2).mono ?_; rintro e w5 ⟨rfl, ew⟩; rw [ew]; clear ew w5)
            | (go_at_call 55; refine (noteS_any (SCN.drew HS4.out) HB.out o t HOK.out HTK.out 2 (by omega) d (egP d) HDD.out (by rw [HDD.out]; rfl)).mono ?_; rintro e w6 ⟨rfl, B2, hs6, hb6, ex6⟩; replace ex6 := Ex.of_drew ex6; have HS6 := hide hs6; have HO6 := hide (HO4.out.keep ex6 hbs); have HX6 := hide (HX4.out.keep ex6 hqs); have HY6 := hide (HY4.out.keep ex6 hps); have HE6 := hide (HE4.out.trans ex6); have HB6 := hide hb6; clear zS; have zS := conj24 HX6.out HY6.out; clear hs6 hb6 ex6))
        clear zS
        rename_i hh1
        clear hh1
        clear HS4 HO4 HX4 HY4 HE4
        obtain ⟨x0, x1, x2, x3, x4, x5, x6, x7, x8, x9, x10, x11⟩ := HX6.out
        obtain ⟨y0, y1, y2, y3, y4, y5, y6, y7, y8, y9, y10, y11⟩ := HY6.out
        go_wp2_with fail
        refine (hears_any _ o t d).mono ?_
        rintro e w7 ⟨rfl, b7⟩
        have HS7 := hide (HS6.out.below b7)
        have HO7 := hide (HO6.out.keep (Ex.of (S := fun _ => False) b7) (fun e => e))
        have HX7 := hide (HX6.out.below b7)
        have HY7 := hide (HY6.out.below b7)
        have HE7 := hide (HE6.out.trans (Ex.of b7))
        clear b7 x0 x1 x2 x3 x4 x5 x6 x7 x8 x9 x10 x11 y0 y1 y2 y3 y4 y5 y6 y7 y8 y9 y10 y11 HS6 HO6 HX6 HY6 HE6
        cases hv : hearP o t d
        · have HV3 := hide (show seeP M o t 3 = false by show hearP o t (dstP o t) = false; rw [← HDD.out]; exact hv)
          clear hv
          go_wp2
          go_roundw
          case rel => exact ⟨i + 1, B2, by omega, by simp, HS7.out, HO7.out, HX7.out, HE7.out, bd_next1 HT.out.1 HT.out.2 HB6.out (only2 HV.out HV3.out)⟩
          case measure => simp [intOf]; omega
        · have HV3 := hide (show seeP M o t 3 = true by show hearP o t (dstP o t) = true; rw [← HDD.out]; exact hv)
          clear hv
          obtain ⟨x0, x1, x2, x3, x4, x5, x6, x7, x8, x9, x10, x11⟩ := HX7.out
          obtain ⟨y0, y1, y2, y3, y4, y5, y6, y7, y8, y9, y10, y11⟩ := HY7.out
          go_wp2_with fail
          refine (noteS_any HS7.out HB6.out o t HOK.out HTK.out 3 (by omega) d 1 HDD.out rfl).mono ?_
          rintro e w8 ⟨rfl, B3, hs8, hb8, ex8⟩
          have HS8 := hide hs8
          have HO8 := hide (HO7.out.keep ex8 hbs)
          have HX8 := hide (HX7.out.keep ex8 hqs)
          have HY8 := hide (HY7.out.keep ex8 hps)
          have HE8 := hide (HE7.out.trans ex8)
          have HB8 := hide hb8
          clear hs8 hb8 ex8 x0 x1 x2 x3 x4 x5 x6 x7 x8 x9 x10 x11 y0 y1 y2 y3 y4 y5 y6 y7 y8 y9 y10 y11
          go_wp2
          go_roundw
          case rel => exact ⟨i + 1, B3, by omega, by simp, HS8.out, HO8.out, HX8.out, HE8.out, bd_next2 HT.out.1 HT.out.2 HB8.out (fun x => ⟨fun h => h.1, fun h => ⟨h, by rcases h with rfl | rfl; exact HV.out; exact HV3.out⟩⟩)⟩
          case measure => simp [intOf]; omega

    · have hlti : ¬ (i : Int) < (G.length : Int) := by omega
      obtain rfl : i = G.length := by omega
      go_wp2
      go_end0
      exact ⟨rfl, B1, HS.out, HB.out.done HF.out (fun k hk => by rcases hk with rfl | rfl; exact (HR.out.2 M).1; exact (HR.out.2 M).2), HE.out⟩
end Go.Proofs.Qxb6500776a
