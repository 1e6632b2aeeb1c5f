import Derived.Test.Qxb6500776aScn
namespace Go.Proofs.Qxb6500776a
open Go.RowKit

/-- G lists the indices below n that meet P, each once. -/
structure GM (n : Nat) (P : Nat → Prop) (G : List Nat) : Prop where
  nd : G.Nodup
  mem : ∀ x, x ∈ G ↔ x < n ∧ P x
theorem GM.len {n : Nat} {P : Nat → Prop} {G : List Nat} (h : GM n P G) : G.length ≤ n := by
  have := h.nd.length_le_of_subset (l₂ := List.range n) fun x hx => List.mem_range.2 ((h.mem x).1 hx).1
  simpa using this
theorem GM.lt {n : Nat} {P : Nat → Prop} {G : List Nat} (h : GM n P G) {j : Nat} (hj : j < n) (hp : ¬ P j) : G.length < n := by
  have h1 : (G ++ [j]).Nodup := by
    rw [List.nodup_append]
    refine ⟨h.nd, by simp, fun a ha b hb => ?_⟩
    rw [List.mem_singleton.1 hb]
    rintro rfl
    exact hp ((h.mem a).1 ha).2
  have := h1.length_le_of_subset (l₂ := List.range n) fun x hx => by
    rcases List.mem_append.1 hx with z | z
    · exact List.mem_range.2 ((h.mem x).1 z).1
    · rw [List.mem_singleton.1 z]; exact List.mem_range.2 hj
  simp at this
  omega
theorem GM.iff {n : Nat} {P Q : Nat → Prop} {G : List Nat} (h : GM n P G) (e : ∀ x, x < n → (Q x ↔ P x)) : GM n Q G :=
  ⟨h.nd, fun x => ⟨fun hx => ⟨((h.mem x).1 hx).1, (e x ((h.mem x).1 hx).1).2 ((h.mem x).1 hx).2⟩, fun hx => (h.mem x).2 ⟨hx.1, (e x hx.1).1 hx.2⟩⟩⟩
theorem GM.push {n : Nat} {P : Nat → Prop} {G : List Nat} (h : GM n P G) {j : Nat} (hj : j < n) (hp : ¬ P j) : GM n (fun x => P x ∨ x = j) (G ++ [j]) := by
  refine ⟨?_, fun x => ?_⟩
  · rw [List.nodup_append]
    refine ⟨h.nd, by simp, fun a ha b hb => ?_⟩
    rw [List.mem_singleton.1 hb]
    rintro rfl
    exact hp ((h.mem a).1 ha).2
  · rw [List.mem_append, List.mem_singleton, h.mem]
    constructor
    · rintro (⟨h1, h2⟩ | rfl)
      · exact ⟨h1, .inl h2⟩
      · exact ⟨hj, .inr rfl⟩
    · rintro ⟨h1, h2 | rfl⟩
      · exact .inl ⟨h1, h2⟩
      · exact .inr rfl
/-- The numbers F begin with the list G. -/
def Holds (F : Nat → Int) (G : List Nat) : Prop := ∀ (i z : Nat), G[i]? = some z → F i = (z : Int)
theorem Holds.push {F : Nat → Int} {G : List Nat} (h : Holds F G) (j : Nat) : Holds (updF F G.length j) (G ++ [j]) := fun i z hi => by
  unfold updF
  by_cases e : i = G.length
  · subst e; rw [if_pos rfl]; simp at hi; rw [hi]
  · rw [if_neg e]
    refine h i z ?_
    have hl := (List.getElem?_eq_some_iff.1 hi).1
    simp at hl
    rwa [List.getElem?_append_left (by omega)] at hi
def fR (A : List Shp) (i : Nat) : Nat := ((A[i]?).map celR).getD 0
def fC (A : List Shp) (i : Nat) : Nat := ((A[i]?).map celC).getD 0
theorem fcel_rc (A : List Shp) (i : Nat) : fcel A i = fR A i * 33 + fC A i := by
  unfold fcel fR fC
  cases A[i]? <;> simp [cel]
theorem fC_lt {A : List Shp} (h : ∀ t ∈ A, ShpOk t) (i : Nat) : fC A i < 33 := by
  unfold fC
  cases e : A[i]? with
  | none => simp
  | some t => simp; exact (celC_lt (h t (List.mem_of_getElem? e))).1
/-- What the grid gathers. -/
structure GOut (A : List Shp) (G : List Nat) (F : Nat → Int) (x y r : Int) : Prop where
  len : G.length ≤ A.length
  hold : Holds F G
  lt : ∀ z ∈ G, z < A.length
  all : ∀ z t, A[z]? = some t → -r ≤ t.x - x → t.x - x ≤ r → -r ≤ t.y - y → t.y - y ≤ r → z ∈ G
def GatPost (w : World) (b : Nat) (A : List Shp) (x y r : Int) (e : Ending) (w' : World) : Prop := ∃ (G : List Nat) (F' : Nat → Int), e = .returned (.int .i64 G.length) ∧ OutB w' b F' ∧ Ex (fun k => k = b) w w' ∧ GOut A G F' x y r
def cidx (v : Int) : Nat := ((holdP v (-1048576) 1048576 + 1048576) / 65536).toNat
theorem cidx_lt (v : Int) : cidx v < 33 ∧ (holdP v (-1048576) 1048576 + 1048576) / 65536 = (cidx v : Int) := by
  have := hold_rng (v := v) (lo := -1048576) (hi := 1048576) (by omega)
  unfold cidx; omega
theorem cidx_le {u v : Int} (h : u ≤ v) (hv : OnM v) : cidx u ≤ ((v + 1048576) / 65536).toNat := by
  unfold OnM at hv
  unfold cidx holdP
  split
  · omega
  · split <;> omega
theorem cidx_ge {u v : Int} (h : v ≤ u) (hv : OnM v) : ((v + 1048576) / 65536).toNat ≤ cidx u := by
  unfold OnM at hv
  unfold cidx holdP
  split
  · omega
  · split <;> omega
theorem cell2_any (w : World) (v : Int) : Calls Try.prog 75 #[.int .i64 v] w fun e w' => ∃ u, e = .returned (.int .i64 u) ∧ OnM u ∧ (u + 1048576) / 65536 = (cidx v : Int) ∧ w' = w := by
  refine (toMap_any w v).mono ?_
  rintro e w' ⟨rfl, rfl⟩
  exact ⟨_, rfl, hold_rng (by omega), (cidx_lt v).2, rfl⟩
set_option maxRecDepth 100000 in
set_option maxHeartbeats 2000000 in
theorem gather_any (w : World) (s : Nat) (C : Nat → Value) (A : List Shp) (h : CB w s C) (hg : GH C A) (hA : ∀ t ∈ A, ShpOk t) (hn : A.length ≤ 48) (b : Nat) (F : Nat → Int) (ho : OutB w b F) (hbs : b ≠ s)
    (x y r : Int) (hx : OnM x) (hy : OnM y) (hr : 0 ≤ r ∧ r ≤ 1099511627776) :
    Calls Try.prog 69 #[.pointer (some ⟨s, 0, none⟩), .int .i64 x, .int .i64 y, .int .i64 r, .pointer (some ⟨b, 0, none⟩)] w (GatPost w b A x y r) := by
  have HC := hide h
  have HG := hide hg
  have HA := hide hA
  have HO := hide ho
  have hx' := hx
  have hy' := hy
  unfold OnM at hx' hy'
  have b1 := cidx_lt (x - r)
  have b2 := cidx_lt (x + r)
  have b3 := cidx_lt (y - r)
  have b4 := cidx_lt (y + r)
  have c1 := fun w => hide (cell2_any w (x - r))
  have c2 := fun w => hide (cell2_any w (x + r))
  have c3 := fun w => hide (cell2_any w (y - r))
  have c4 := fun w => hide (cell2_any w (y + r))
  have HXY := hide (And.intro hx hy)
  obtain ⟨l, hl⟩ : ∃ l, cidx (x - r) = l := ⟨_, rfl⟩
  obtain ⟨rt, hrt⟩ : ∃ l, cidx (x + r) = l := ⟨_, rfl⟩
  obtain ⟨lo, hlo⟩ : ∃ l, cidx (y - r) = l := ⟨_, rfl⟩
  obtain ⟨hi, hhi⟩ : ∃ l, cidx (y + r) = l := ⟨_, rfl⟩
  rw [hl] at c1 b1
  rw [hrt] at c2 b2
  rw [hlo] at c3 b3
  rw [hhi] at c4 b4
  replace b1 := b1.1
  replace b2 := b2.1
  replace b3 := b3.1
  replace b4 := b4.1
  have HL := hide (And.intro hl (And.intro hrt (And.intro hlo hhi)))
  clear h hg hA ho hx hy hl hrt hlo hhi
  go_enter Try.func69, Try.ntmps69
  go_wp2_with fail
  refine (c1 _).out.mono ?_
  rintro e w' ⟨u, rfl, hu, eu, ew⟩
  rw [ew]
  clear c1 ew w'
  go_wp2_with fail
  refine (cellOf_any _ u hu).mono ?_
  rintro e w' ⟨rfl, ew⟩
  rw [ew, eu]
  clear hu eu ew w'
  go_wp2_with fail
  refine (c2 _).out.mono ?_
  rintro e w' ⟨u2, rfl, hu, eu, ew⟩
  rw [ew]
  clear c2 ew w'
  go_wp2_with fail
  refine (cellOf_any _ u2 hu).mono ?_
  rintro e w' ⟨rfl, ew⟩
  rw [ew, eu]
  clear hu eu ew w'
  go_wp2_with fail
  refine (c3 _).out.mono ?_
  rintro e w' ⟨u3, rfl, hu, eu, ew⟩
  rw [ew]
  clear c3 ew w'
  go_wp2_with fail
  refine (cellOf_any _ u3 hu).mono ?_
  rintro e w' ⟨rfl, ew⟩
  rw [ew, eu]
  clear hu eu ew w'
  go_wp2_with fail
  refine (c4 _).out.mono ?_
  rintro e w' ⟨u4, rfl, hu, eu, ew⟩
  rw [ew]
  clear c4 ew w'
  go_wp2_with fail
  refine (cellOf_any _ u4 hu).mono ?_
  rintro e w' ⟨rfl, ew⟩
  rw [ew, eu]
  clear hu eu ew w'
  go_wp2
  go_loopw [15, 16] (fun sn sr wr => ∃ (row : Nat) (G : List Nat) (F' : Nat → Int), sn = .int .i64 G.length ∧ sr = .int .i64 row ∧ lo ≤ row ∧ OutB wr b F' ∧ Holds F' G ∧ Ex (fun k => k = b) w wr ∧ GM A.length (fun z => lo ≤ fR A z ∧ fR A z < row ∧ (row ≤ hi + 1 ∨ fR A z ≤ hi) ∧ l ≤ fC A z ∧ fC A z ≤ rt) G) (fun _ sr _ => hi + 1 - (intOf sr).toNat)
  case atStart =>
    refine ⟨lo, [], F, rfl, rfl, Nat.le_refl _, HO.out, fun i z hz => by simp at hz, Ex.refl _ _, ⟨by simp, fun z => ?_⟩⟩
    simp
    intro _ h1 h2
    omega
  case round =>
    obtain ⟨row, G, F', rfl, rfl, hrow, ho, hh, hex, hgm⟩ := hrel
    clear HO
    have HO := hide ho
    have HH := hide hh
    have HE := hide hex
    have HM := hide hgm
    have hGl := hgm.len
    clear ho hh hex hgm
    by_cases hrh : row ≤ hi
    · have hrhi : (row : Int) ≤ (hi : Int) := by omega
      go_wp2
      go_loopw [15, 17] (fun sn sc wr => ∃ (col : Nat) (G : List Nat) (F' : Nat → Int), sn = .int .i64 G.length ∧ sc = .int .i64 col ∧ l ≤ col ∧ OutB wr b F' ∧ Holds F' G ∧ Ex (fun k => k = b) w wr ∧ GM A.length (fun z => (lo ≤ fR A z ∧ fR A z < row ∧ l ≤ fC A z ∧ fC A z ≤ rt) ∨ (fR A z = row ∧ l ≤ fC A z ∧ fC A z < col ∧ fC A z ≤ rt)) G) (fun _ sc _ => rt + 1 - (intOf sc).toNat)
      case atStart =>
        refine ⟨l, G, F', rfl, rfl, Nat.le_refl _, HO.out, HH.out, HE.out, HM.out.iff fun z hz => ?_⟩
        constructor
        · rintro (h | h)
          · omega
          · omega
        · intro h
          left
          omega
      case round =>
        clear HO HH HE HM hGl
        obtain ⟨col, G2, F2, rfl, rfl, hcol, ho, hh, hex, hgm⟩ := hrel
        have HO := hide ho
        have HH := hide hh
        have HE := hide hex
        have HM := hide hgm
        have hGl := hgm.len
        clear ho hh hex hgm
        by_cases hcr : col ≤ rt
        · have hcri : (col : Int) ≤ (rt : Int) := by omega
          have hcc : (row : Int) * 33 + col = ((row * 33 + col : Nat) : Int) := by omega
          obtain ⟨c, hc⟩ : ∃ c, row * 33 + col = c := ⟨_, rfl⟩
          rw [hc] at hcc
          have hclt : c < 1089 := by omega
          have hclt2 : (c : Int) < 1089 := by omega
          have HCC := hide hc
          have cz := (HC.out.keep HE.out (fun e => hbs e.symm)).c c (by omega)
          rw [HG.out.hd c hclt] at cz
          clear hc
          go_wp2
          go_loopw [15, 18] (fun sn si wr => ∃ (m : Nat) (G : List Nat) (F' : Nat → Int), m ≤ A.length ∧ sn = .int .i64 G.length ∧ si = .int .i64 (prv (fcel A) m c) ∧ OutB wr b F' ∧ Holds F' G ∧ Ex (fun k => k = b) w wr ∧ GM A.length (fun z => ((lo ≤ fR A z ∧ fR A z < row ∧ l ≤ fC A z ∧ fC A z ≤ rt) ∨ (fR A z = row ∧ l ≤ fC A z ∧ fC A z < col ∧ fC A z ≤ rt)) ∨ (fcel A z = c ∧ m ≤ z)) G) (fun _ si _ => (intOf si + 1).toNat)
          case atStart =>
            refine ⟨A.length, G2, F2, Nat.le_refl _, rfl, rfl, HO.out, HH.out, HE.out, HM.out.iff fun z hz => ?_⟩
            omega
          case round =>
            clear HO HH HE HM hGl cz
            obtain ⟨m, G3, F3, hmn, rfl, rfl, ho, hh, hex, hgm⟩ := hrel
            have HO := hide ho
            have HH := hide hh
            have HE := hide hex
            have HM := hide hgm
            have hGl := hgm.len
            rcases prv_cases (fcel A) c m with ⟨h1, h2⟩ | ⟨j, hj, h1, h2, h3⟩
            · rw [h1]
              have H2 := hide h2
              clear ho hh hex hgm h1 h2
              go_wp2
              go_roundw
              case rel =>
                refine ⟨col + 1, G3, F3, rfl, by simp, by omega, HO.out, HH.out, HE.out, HM.out.iff fun z hz => ?_⟩
                have e1 := fcel_rc A z
                have e2 := fC_lt HA.out z
                have e3 := HCC.out
                have e4 : z < m → fcel A z ≠ c := fun hz => H2.out z hz
                omega
              case measure => simp [intOf]; omega
            · have hjA : j < A.length := by omega
              have hnP : ¬ (((lo ≤ fR A j ∧ fR A j < row ∧ l ≤ fC A j ∧ fC A j ≤ rt) ∨ (fR A j = row ∧ l ≤ fC A j ∧ fC A j < col ∧ fC A j ≤ rt)) ∨ (fcel A j = c ∧ m ≤ j)) := by
                have e1 := fcel_rc A j
                have e2 := fC_lt HA.out j
                have e3 := HCC.out
                omega
              have hG48 : G3.length < 48 := by have := HM.out.lt hjA hnP; omega
              have HM2 := hide (HM.out.push hjA hnP)
              rw [h1]
              have cj := (HC.out.keep HE.out (fun e => hbs e.symm)).c (1089 + j) (by omega)
              rw [HG.out.nx j hjA, h2] at cj
              have ob := HO.out.c G3.length hG48
              have of := HO.out.fr G3.length
              have HO2 := hide (HO.out.set hG48 (j : Int))
              have HE2 := hide (HE.out.set (p := b) (j := G3.length) rfl (.int .i64 (j : Int)))
              have HH2 := hide (HH.out.push j)
              have H3 := hide h3
              have HJ2 := hide h2
              have hj48 : (j : Int) < 48 := by omega
              have hG48i : (G3.length : Int) < 48 := by omega
              have hbs' : ¬ b = s := hbs
              have hsb' : ¬ s = b := fun e => hbs e.symm
              have hM := hide (show (prv (fcel A) j c + 1).toNat < j + 1 by rcases prv_cases (fcel A) c j with ⟨q1, _⟩ | ⟨jj, q0, q1, _⟩ <;> rw [q1] <;> omega)
              clear ho hh hex hgm h1 h2 h3 hnP
              go_wp2
              go_roundw
              case rel =>
                refine ⟨j, G3 ++ [j], _, by omega, by simp, rfl, HO2.out, HH2.out, HE2.out, HM2.out.iff fun z hz => ?_⟩
                have e4 : j < z → z < m → fcel A z ≠ c := H3.out z
                have e5 := HJ2.out
                have e6 : z = j → fcel A z = c := fun e => by rw [e]; exact e5
                omega
              case measure =>
                have := hM.out
                simp [intOf]; omega
        · have hcri : ¬ (col : Int) ≤ (rt : Int) := by omega
          go_wp2
          go_roundw
          case rel =>
            refine ⟨row + 1, G2, F2, rfl, by simp, by omega, HO.out, HH.out, HE.out, HM.out.iff fun z hz => ?_⟩
            omega
          case measure => simp [intOf]; omega
    · have hrhi : ¬ (row : Int) ≤ (hi : Int) := by omega
      go_wp2
      go_ret
      refine ⟨G, F', rfl, HO.out, HE.out, ⟨HM.out.len, HH.out, fun z hz => ((HM.out.mem z).1 hz).1, fun z t hz h1 h2 h3 h4 => ?_⟩⟩
      refine (HM.out.mem z).2 ⟨(List.getElem?_eq_some_iff.1 hz).1, ?_⟩
      have ok := HA.out t (List.mem_of_getElem? hz)
      have eR : fR A z = celR t := by unfold fR; rw [hz]; rfl
      have eC : fC A z = celC t := by unfold fC; rw [hz]; rfl
      obtain ⟨hl, hrt, hlo, hhi⟩ := HL.out
      have k1 := cidx_le (show x - r ≤ t.x by omega) ok.x
      have k2 := cidx_ge (show t.x ≤ x + r by omega) ok.x
      have k3 := cidx_le (show y - r ≤ t.y by omega) ok.y
      have k4 := cidx_ge (show t.y ≤ y + r by omega) ok.y
      rw [hl] at k1
      rw [hrt] at k2
      rw [hlo] at k3
      rw [hhi] at k4
      rw [eR, eC]
      unfold celR celC
      omega
end Go.Proofs.Qxb6500776a
