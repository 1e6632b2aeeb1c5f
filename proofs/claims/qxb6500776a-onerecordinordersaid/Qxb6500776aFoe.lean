import Derived.Test.Qxb6500776aGat
namespace Go.Proofs.Qxb6500776a
open Go.RowKit

/-- The scanner's ships are A. -/
def GSh (C : Nat → Value) (A : List Shp) : Prop := ∀ i t, A[i]? = some t → ∀ j v, t.vals[j]? = some v → C (1137 + i * 12 + j) = v
/-- What foes keeps. -/
structure FOut (A : List Shp) (G : List Nat) (F : Nat → Int) (o : Shp) (r : Int) : Prop where
  len : G.length ≤ 48
  hold : Holds F G
  lt : ∀ z ∈ G, ∃ t, A[z]? = some t ∧ t.team ≠ o.team
  all : ∀ z t, A[z]? = some t → t.team ≠ o.team → Near o t r → z ∈ G
  neg : r < 0 → G = []
def FoePost (w : World) (b : Nat) (A : List Shp) (o : Shp) (r : Int) (e : Ending) (w' : World) : Prop := ∃ (G : List Nat) (F' : Nat → Int), e = .returned (.int .i64 G.length) ∧ OutB w' b F' ∧ Ex (fun k => k = b) w w' ∧ FOut A G F' o r
def shpA (a : Shp) : Array Value := #[.int .i64 a.id, .int .i64 a.team, .int .i64 a.x, .int .i64 a.y, .int .i64 a.depth, .int .i64 a.speed, .int .i64 a.mast, .int .i64 a.noise, .bool a.afloat, .bool a.radar, .bool a.sonar, .bool a.ping]
/-- A ship in its box. -/
structure BX (w : World) (p : Nat) (s : Shp) : Prop where
  c0 : w.cell? ⟨p, 0, none⟩ = some (.int .i64 s.id)
  c1 : w.cell? ⟨p, 1, none⟩ = some (.int .i64 s.team)
  c2 : w.cell? ⟨p, 2, none⟩ = some (.int .i64 s.x)
  c3 : w.cell? ⟨p, 3, none⟩ = some (.int .i64 s.y)
  c4 : w.cell? ⟨p, 4, none⟩ = some (.int .i64 s.depth)
  c5 : w.cell? ⟨p, 5, none⟩ = some (.int .i64 s.speed)
  c6 : w.cell? ⟨p, 6, none⟩ = some (.int .i64 s.mast)
  c7 : w.cell? ⟨p, 7, none⟩ = some (.int .i64 s.noise)
  c8 : w.cell? ⟨p, 8, none⟩ = some (.bool s.afloat)
  c9 : w.cell? ⟨p, 9, none⟩ = some (.bool s.radar)
  c10 : w.cell? ⟨p, 10, none⟩ = some (.bool s.sonar)
  c11 : w.cell? ⟨p, 11, none⟩ = some (.bool s.ping)
theorem BX.keep {w w' : World} {p : Nat} {s : Shp} (h : BX w p s) {S : Nat → Prop} (e : Ex S w w') (hp : ¬ S p) : BX w' p s :=
  ⟨e.cell hp h.c0, e.cell hp h.c1, e.cell hp h.c2, e.cell hp h.c3, e.cell hp h.c4, e.cell hp h.c5, e.cell hp h.c6, e.cell hp h.c7, e.cell hp h.c8, e.cell hp h.c9, e.cell hp h.c10, e.cell hp h.c11⟩
theorem BX.below {w w' : World} {p : Nat} {s : Shp} (h : BX w p s) (hb : Below w.heap.size w w') : BX w' p s := h.keep (Ex.of (S := fun _ => False) hb) (fun e => e)
theorem BX.new (w : World) (s : Shp) : BX (w.alloc (.cells (shpA s) 38)) w.heap.size s := by
  unfold shpA
  refine ⟨?_, ?_, ?_, ?_, ?_, ?_, ?_, ?_, ?_, ?_, ?_, ?_⟩ <;> simp [go_sem]
theorem BX.drew {w : World} {p : Nat} {s : Shp} (h : BX w p s) : BX w.drew p s := ⟨h.c0, h.c1, h.c2, h.c3, h.c4, h.c5, h.c6, h.c7, h.c8, h.c9, h.c10, h.c11⟩
theorem OutB.drewN {w : World} {b : Nat} {F : Nat → Int} (h : OutB w b F) (k : Nat) : OutB (w.drewN k) b F := h.keep ((Ex.refl (fun _ => False) w).drewN k) (fun e => e)
theorem BX.drewN {w : World} {p : Nat} {s : Shp} (h : BX w p s) (k : Nat) : BX (w.drewN k) p s := h.keep ((Ex.refl (fun _ => False) w).drewN k) (fun e => e)
theorem CB.drewN {w : World} {s : Nat} {C : Nat → Value} (h : CB w s C) (k : Nat) : CB (w.drewN k) s C := h.keep ((Ex.refl (fun _ => False) w).drewN k) (fun e => e)
theorem near_neg {o t : Shp} {r : Int} (h : r < 0) : ¬ Near o t r := by unfold Near; omega
set_option maxRecDepth 100000 in
set_option maxHeartbeats 2000000 in
theorem foes_any (w : World) (s : Nat) (C : Nat → Value) (A : List Shp) (h : CB w s C) (hg : GH C A) (hsh : GSh C A) (hA : ∀ t ∈ A, ShpOk t) (hn : A.length ≤ 48) (b : Nat) (F : Nat → Int) (ho : OutB w b F) (hbs : b ≠ s)
    (o : Shp) (hok : ShpOk o) (r : Int) (hr : r ≤ 1099511627776) :
    Calls Try.prog 52 #[.pointer (some ⟨s, 0, none⟩), .agg #[.int .i64 o.id, .int .i64 o.team, .int .i64 o.x, .int .i64 o.y, .int .i64 o.depth, .int .i64 o.speed, .int .i64 o.mast, .int .i64 o.noise, .bool o.afloat, .bool o.radar, .bool o.sonar, .bool o.ping], .int .i64 r, .pointer (some ⟨b, 0, none⟩)] w (FoePost w b A o r) := by
  have hbl := ho.lt
  have HE := hide ((Ex.refl (fun k => k = b) w).alloc (.cells (shpA o) 38))
  have HX := hide (BX.new w o)
  have HC := hide (h.keep ((Ex.refl (fun _ => False) w).alloc (.cells (shpA o) 38)) (fun e => e))
  have HO := hide (ho.keep ((Ex.refl (fun _ => False) w).alloc (.cells (shpA o) 38)) (fun e => e))
  have HG := hide hg
  have HS := hide hsh
  have HA := hide hA
  have hqb : ¬ w.heap.size = b := by omega
  clear h hg hsh hA ho
  go_enter Try.func52, Try.ntmps52
  go_upto_region 1 with fail
  have hsa : #[.int .i64 o.id, .int .i64 o.team, .int .i64 o.x, .int .i64 o.y, .int .i64 o.depth, .int .i64 o.speed, .int .i64 o.mast, .int .i64 o.noise, .bool o.afloat, .bool o.radar, .bool o.sonar, .bool o.ping] = shpA o := rfl
  rw [hsa]
  clear hsa
  generalize w.alloc (.cells (shpA o) 38) = w1 at *
  obtain ⟨q, hq⟩ : ∃ q, w.heap.size = q := ⟨_, rfl⟩
  rw [hq] at HX hqb ⊢
  clear hq hbl
  by_cases hr0 : r < 0
  · go_wp2
    go_ret
    exact ⟨[], F, rfl, HO.out, HE.out, ⟨by simp, fun i z hz => by simp at hz, fun z hz => by simp at hz, fun z t _ _ hne => (near_neg hr0 hne).elim, fun _ => rfl⟩⟩
  · have x2 := HX.out.c2
    have x3 := HX.out.c3
    go_upto_region 3 with fail
    go_region_held3 (fun w' => w'.cell? ⟨q, 2, none⟩ = some (.int .i64 o.x) ∧ w'.cell? ⟨q, 3, none⟩ = some (.int .i64 o.y)) (simp [*, go_sem])
      (first | (go_at_call 69; refine (gather_any _ s C A HC.out.drew HG.out HA.out hn b F HO.out.drew hbs o.x o.y r hok.x hok.y ⟨by omega, hr⟩).mono ?_; rintro e w2 ⟨G, F2, rfl, ho2, hex2, hgo⟩; have HO2 := hide ho2; have HE2 := hide (HE.out.trans (Ex.of_drew hex2)); have HX2 := hide (HX.out.drew.keep hex2 hqb); have HC2 := hide (HC.out.drew.keep hex2 (fun e => hbs e.symm)); have HGO := hide hgo; have y2 := HX2.out.c2; have y3 := HX2.out.c3; clear ho2 hex2 hgo))
    have hG48 : G.length ≤ 48 := Nat.le_trans HGO.out.len hn
    clear x2 x3 y2 y3 HO HE HX HC
    rename_i hh0
    clear hh0
    go_wp2
    go_loopw [10, 11] (fun sk si wr => ∃ (i : Nat) (K : List Nat) (F' : Nat → Int), i ≤ G.length ∧ K.length ≤ i ∧ sk = .int .i64 K.length ∧ si = .int .i64 i ∧ OutB wr b F' ∧ Ex (fun k => k = b) w2 wr ∧ Holds F' K ∧ (∀ (j z : Nat), i ≤ j → G[j]? = some z → F' j = z) ∧ (∀ z ∈ K, ∃ t, A[z]? = some t ∧ t.team ≠ o.team) ∧ (∀ (j z : Nat), j < i → G[j]? = some z → ∀ t, A[z]? = some t → t.team ≠ o.team → z ∈ K)) (fun _ si _ => G.length - (intOf si).toNat)
    case atStart => exact ⟨0, [], F2, by omega, by simp, rfl, rfl, HO2.out, Ex.refl _ _, fun i z hz => by simp at hz, fun j z _ hz => HGO.out.hold j z hz, fun z hz => by simp at hz, fun j z hj => by omega⟩
    case round =>
      obtain ⟨i, K, F3, hi, hK, rfl, rfl, ho, hex, hh, ha, hb, hc⟩ := hrel
      have HO := hide ho
      have HE := hide hex
      have HH := hide hh
      have H1 := hide ha
      have H2 := hide hb
      have H3 := hide hc
      have HX := hide (HX2.out.keep hex hqb)
      have HC := hide (HC2.out.keep hex (fun e => hbs e.symm))
      clear ho hex hh ha hb hc HO2
      by_cases hlt : i < G.length
      · obtain ⟨z, hz⟩ : ∃ z, G[i]? = some z := ⟨_, List.getElem?_eq_getElem hlt⟩
        have hzA := HGO.out.lt z (List.mem_of_getElem? hz)
        obtain ⟨t, ht⟩ : ∃ t, A[z]? = some t := ⟨_, List.getElem?_eq_getElem hzA⟩
        have hz48 : z < 48 := by omega
        have co := HO.out.c i (by omega)
        rw [H1.out i z (Nat.le_refl _) hz] at co
        have cs := HC.out.c (1137 + z * 12 + 1) (by omega)
        rw [HS.out z t ht 1 _ rfl] at cs
        have cq := HX.out.c1
        have hzi : (z : Int) < 48 := by omega
        have hli : (i : Int) < (G.length : Int) := by omega
        have hi48 : (i : Int) < 48 := by omega
        have HZ := hide hz
        have HT := hide ht
        clear hz ht
        by_cases hteam : t.team = o.team
        · go_upto_region 8 with fail
          go_quiet (fail)
          clear co cs cq
          go_wp2
          go_roundw
          case rel =>
            refine ⟨i + 1, K, F3, by omega, by omega, rfl, by simp, HO.out.drewN _, HE.out.drewN _, HH.out, fun j z' hj hz' => H1.out j z' (by omega) hz', H2.out, fun j z' hj hz' t' ht' hne => ?_⟩
            rcases (by omega : j < i ∨ j = i) with y | rfl
            · exact H3.out j z' y hz' t' ht' hne
            · rw [HZ.out] at hz'; cases hz'
              rw [HT.out] at ht'; cases ht'
              exact (hne hteam).elim
          case measure => simp [intOf]; omega
        · go_upto_region 8 with fail
          go_quiet (fail)
          have ck := HO.out.c K.length (by omega)
          have fk := HO.out.fr K.length
          have hKi : (K.length : Int) < 48 := by omega
          go_upto_region 9 with fail
          go_region
          clear co cs cq ck fk
          go_wp2
          go_roundw
          case rel =>
            refine ⟨i + 1, K ++ [z], updF F3 K.length z, by omega, by simp; omega, by simp, by simp, (HO.out.drewN _).set (by omega) (z : Int), (HE.out.drewN _).set (p := b) (j := K.length) rfl _, HH.out.push z, fun j z' hj hz' => ?_, fun z' hz' => ?_, fun j z' hj hz' t' ht' hne => ?_⟩
            · unfold updF
              rw [if_neg (by omega)]
              exact H1.out j z' (by omega) hz'
            · rcases List.mem_append.1 hz' with y | y
              · exact H2.out z' y
              · rw [List.mem_singleton.1 y]
                exact ⟨t, HT.out, hteam⟩
            · rcases (by omega : j < i ∨ j = i) with y | rfl
              · exact List.mem_append.2 (.inl (H3.out j z' y hz' t' ht' hne))
              · rw [HZ.out] at hz'; cases hz'
                exact List.mem_append.2 (.inr (by simp))
          case measure => simp [intOf]; omega
      · have hli : ¬ (i : Int) < (G.length : Int) := by omega
        go_wp2
        go_ret
        refine ⟨K, F3, rfl, HO.out, HE2.out.trans HE.out, ⟨by omega, HH.out, H2.out, fun z t hz hne hnr => ?_, fun hneg => by omega⟩⟩
        have hzG := HGO.out.all z t hz hnr.1 hnr.2.1 hnr.2.2.1 hnr.2.2.2
        obtain ⟨j, hj, rfl⟩ := List.getElem_of_mem hzG
        exact H3.out j _ (by omega) (List.getElem?_eq_getElem hj) t hz hne
end Go.Proofs.Qxb6500776a
