import Derived.Test.Qxb6500773aGreatZO
namespace Go.Proofs.Qxb6500773aGreat
set_option maxRecDepth 100000
open Go.RowKit

def SzPost (w : World) (va : Value) (X : List Int) (d : Bool) (e : Ending) (w' : World) : Prop := ∃ a' c', e = .returned (.tuple #[.slice a' X.length c', .bool d]) ∧ CL w' a' X ∧ (∀ g off, a' = some ⟨g, off, none⟩ → va.ownBlock = some g) ∧ Below w.heap.size w w'
set_option linter.unusedSimpArgs false in
set_option maxRecDepth 100000 in
set_option maxHeartbeats 4000000 in
/-- cnf.Proof.Step -/
theorem stepN_any (w : World) (B b : Nat) (va ve vd : Value) (L E : List Int) (D : List Bool) (hp : PF w B b va ve vd L E D) (hE : EOk L E) (hD : D.length = E.length) (hL : E.length ≤ 1000000000) (i : Nat) (hi : i < E.length) :
    Calls Tryz.prog 63 #[.pointer (some ⟨b, 0, none⟩), .int .i64 i] w (SzPost w va (clP L E i) (D.getD i false)) := by
  have HPF := hide hp
  have hin := inRange_any w B b va ve L E i hp.ar
  obtain ⟨ad, cd, rfl⟩ := own_form hp.r2
  obtain ⟨aa, ca, rfl⟩ := own_form hp.ar.r0
  have HCA := hide (show L.length ≤ ca from by
    rcases hp.ar.r0.2 with ⟨z, z2⟩ | ⟨g, cap, cur, z, -, -, hnc, -⟩
    · simp only [Value.slice.injEq] at z; omega
    · simp only [Value.slice.injEq] at z; omega)
  have hlo := hE.lo hi
  have hde : D[i]? = some (D.getD i false) := by rw [List.getD_eq_getElem?_getD, List.getElem?_eq_getElem (by omega)]; rfl
  have cAt := fun w' (h : PF w' B b (.slice aa L.length ca) ve (.slice ad D.length cd) L E D) => hide (at_any w' B b 0 aa ca ve L E h.ar HCA.out i (loP E i) (loP E (i + 1)) hlo.2.2.2 hlo.2.2.1 hlo.1 hlo.2.1 (by omega))
  rw [show (L.take (loP E (i + 1))).drop (loP E i) = clP L E i from rfl] at cAt
  obtain ⟨gd, cd', e1, hcd, hid⟩ := row_cell hp.r2 (i := i) (u := .bool (D.getD i false)) (by rw [List.getElem?_map, hde]; rfl)
  cases e1
  have HL := hide hi
  have hb : decide (i < E.length) = true := by simpa using hi
  rw [hb] at hin
  have h2 : decide ((i : Int) < 0) = false := by simp
  have h3 : (i : Int) < (D.length : Int) := by omega
  clear hde hlo hE hD hi hb hL
  generalize clP L E i = C at *
  generalize D.getD i false = d at *
  have zS : w.cell? ⟨b, 2, none⟩ = some (.slice (some ⟨gd, 0, none⟩) D.length cd) ∧ w.cell? ⟨gd, i, none⟩ = some (.bool d) := ⟨hp.c2, hcd⟩
  clear hcd hp
  go_enter Tryz.func63, Tryz.ntmps63
  go_wp2_with fail
  refine hin.mono ?_
  rintro e w' ⟨rfl, hw⟩
  rw [hw]
  clear hin hw w'
  go_upto_region 3 with fail
  refine wp_region_held_drew (S := fun w' => w'.cell? ⟨b, 2, none⟩ = some (.slice (some ⟨gd, 0, none⟩) D.length cd) ∧ w'.cell? ⟨gd, i, none⟩ = some (.bool d)) (by kernel_rfl) zS (fun hHeld => ?_)
  refine wpAnyH_take (i := 0) (v := ?_) rfl (by kernel_rfl) (by kernel_rfl) (by kernel_rfl) (fun _ _ _ h => h) (Or.inl ⟨by rfl, ?_⟩) (by assumption) ?_
  rotate_left
  · (intro w hSw; (try dsimp only at hSw); go_simp; try (with_reducible rfl))
  try simp only [Act.put, List.getElem_toArray, List.getElem_cons_zero, List.getElem_cons_succ, List.setIfInBounds_toArray, List.set_cons_zero, List.set_cons_succ]
  refine wpAnyH_take (i := 1) (v := ?_) rfl (by kernel_rfl) (by kernel_rfl) (by kernel_rfl) (fun _ _ _ h => h) (Or.inl ⟨by rfl, ?_⟩) (by assumption) ?_
  rotate_left
  · (intro w hSw; (try dsimp only at hSw); go_simp; try (with_reducible rfl))
  try simp only [Act.put, List.getElem_toArray, List.getElem_cons_zero, List.getElem_cons_succ, List.setIfInBounds_toArray, List.set_cons_zero, List.set_cons_succ]
  refine wpAnyH_take (i := 2) (v := ?_) rfl (by kernel_rfl) (by kernel_rfl) (by kernel_rfl) (fun _ _ _ h => h) (Or.inl ⟨by rfl, ?_⟩) (by assumption) ?_
  rotate_left
  · (intro w hSw; (try dsimp only at hSw); go_simp; try (with_reducible rfl))
  try simp only [Act.put, List.getElem_toArray, List.getElem_cons_zero, List.getElem_cons_succ, List.setIfInBounds_toArray, List.set_cons_zero, List.set_cons_succ]
  refine wpAnyH_take (i := 3) (v := ?_) rfl (by kernel_rfl) (by kernel_rfl) (by kernel_rfl) (fun _ _ _ h => h) (Or.inl ⟨by rfl, ?_⟩) (by assumption) ?_
  rotate_left
  · (intro w hSw; (try dsimp only at hSw); go_simp; try (with_reducible rfl))
  try simp only [Act.put, List.getElem_toArray, List.getElem_cons_zero, List.getElem_cons_succ, List.setIfInBounds_toArray, List.set_cons_zero, List.set_cons_succ]
  refine wpAnyH_take (i := 5) (v := ?_) rfl (by kernel_rfl) (by kernel_rfl) (by kernel_rfl) (fun _ _ _ h => h) (Or.inl ⟨by rfl, ?_⟩) (by assumption) ?_
  rotate_left
  · (intro w hSw; (try dsimp only at hSw); go_simp; try (with_reducible rfl))
  try simp only [Act.put, List.getElem_toArray, List.getElem_cons_zero, List.getElem_cons_succ, List.setIfInBounds_toArray, List.set_cons_zero, List.set_cons_succ]
  refine wpAnyH_take (i := 6) (v := ?_) rfl (by kernel_rfl) (by kernel_rfl) (by kernel_rfl) (fun _ _ _ h => h) (Or.inl ⟨by rfl, ?_⟩) (by assumption) ?_
  rotate_left
  · (intro w hSw; (try dsimp only at hSw); go_simp; try (with_reducible rfl))
  try simp only [Act.put, List.getElem_toArray, List.getElem_cons_zero, List.getElem_cons_succ, List.setIfInBounds_toArray, List.set_cons_zero, List.set_cons_succ]
  refine wpAnyH_take (i := 7) (v := ?_) rfl (by kernel_rfl) (by kernel_rfl) (by kernel_rfl) (fun _ _ _ h => h) (Or.inl ⟨by rfl, ?_⟩) (by assumption) ?_
  rotate_left
  · (intro w hSw; (try dsimp only at hSw); go_simp; try (with_reducible rfl))
  try simp only [Act.put, List.getElem_toArray, List.getElem_cons_zero, List.getElem_cons_succ, List.setIfInBounds_toArray, List.set_cons_zero, List.set_cons_succ]
  refine wpAnyH_take (i := 8) (v := ?_) rfl (by kernel_rfl) (by kernel_rfl) (by kernel_rfl) (fun _ _ _ h => h) (Or.inl ⟨by rfl, ?_⟩) (by assumption) ?_
  rotate_left
  · (intro w hSw; (try dsimp only at hSw); ((obtain ⟨z1, z2⟩ := hSw)); go_simp; try (with_reducible rfl))
  try simp only [Act.put, List.getElem_toArray, List.getElem_cons_zero, List.getElem_cons_succ, List.setIfInBounds_toArray, List.set_cons_zero, List.set_cons_succ]
  refine wpAnyH_take (i := 9) (v := ?_) rfl (by kernel_rfl) (by kernel_rfl) (by kernel_rfl) (fun _ _ _ h => h) (Or.inl ⟨by rfl, ?_⟩) (by assumption) ?_
  rotate_left
  · (intro w hSw; (try dsimp only at hSw); go_simp; try (with_reducible rfl))
  try simp only [Act.put, List.getElem_toArray, List.getElem_cons_zero, List.getElem_cons_succ, List.setIfInBounds_toArray, List.set_cons_zero, List.set_cons_succ]
  refine wpAnyH_take (i := 10) (v := ?_) rfl (by kernel_rfl) (by kernel_rfl) (by kernel_rfl) (fun _ _ _ h => h) (Or.inl ⟨by rfl, ?_⟩) (by assumption) ?_
  rotate_left
  · (intro w hSw; (try dsimp only at hSw); go_simp; try (with_reducible rfl))
  try simp only [Act.put, List.getElem_toArray, List.getElem_cons_zero, List.getElem_cons_succ, List.setIfInBounds_toArray, List.set_cons_zero, List.set_cons_succ]
  refine wpAnyH_take (i := 11) (v := ?_) rfl (by kernel_rfl) (by kernel_rfl) (by kernel_rfl) (fun _ _ _ h => h) (Or.inl ⟨by rfl, ?_⟩) (by assumption) ?_
  rotate_left
  · (intro w hSw; (try dsimp only at hSw); ((obtain ⟨z1, z2⟩ := hSw)); go_simp; try (with_reducible rfl))
  try simp only [Act.put, List.getElem_toArray, List.getElem_cons_zero, List.getElem_cons_succ, List.setIfInBounds_toArray, List.set_cons_zero, List.set_cons_succ]
  refine wpAnyH_ready (rs := [4]) (by kernel_rfl) (by simp) ?_
  refine (AllReadyH.cons rfl (fun K hK => ?_) AllReadyH.nil)
  · refine step_call rfl 109 #[.pointer (some ⟨b, 0, none⟩), .int .i64 i] (by simp [go_sem]) (cAt _ (HPF.out.below ((Below.refl _ _).drew))).out ?_
    rintro e w5 ⟨a5, c5, rfl, hc5, hg5, b5⟩
    replace b5 := of_drew b5
    have zS5 : w5.cell? ⟨b, 2, none⟩ = some (.slice (some ⟨gd, 0, none⟩) D.length cd) ∧ w5.cell? ⟨gd, i, none⟩ = some (.bool d) := ⟨cellKeep b5 zS.1, cellKeep b5 zS.2⟩
    have HP5 := hide (show SzPost w _ C d (.returned (.tuple #[.slice a5 C.length c5, .bool d])) w5 from ⟨a5, c5, rfl, hc5, hg5, b5⟩)
    clear b5 hc5 hg5
    refine ⟨_, rfl, ?_⟩
    refine hK.out _ _ ?_ (fun hHeld => ?_)
    · (first | with_reducible exact zS5 | with_reducible exact zS | exact zS)
    clear hK K
    try simp only [Act.put, List.getElem_toArray, List.getElem_cons_zero, List.getElem_cons_succ, List.setIfInBounds_toArray, List.set_cons_zero, List.set_cons_succ]
    refine wpAnyH_take (i := 12) (v := ?_) rfl (by kernel_rfl) (by kernel_rfl) (by kernel_rfl) (fun _ _ _ h => h) (Or.inl ⟨by rfl, ?_⟩) (by assumption) ?_
    rotate_left
    · (intro w hSw; (try dsimp only at hSw); go_simp; try (with_reducible rfl))
    try simp only [Act.put, List.getElem_toArray, List.getElem_cons_zero, List.getElem_cons_succ, List.setIfInBounds_toArray, List.set_cons_zero, List.set_cons_succ]
    refine wpAnyH_take (i := 13) (v := ?_) rfl (by kernel_rfl) (by kernel_rfl) (by kernel_rfl) (fun _ _ _ h => h) (Or.inl ⟨by rfl, ?_⟩) (by assumption) ?_
    rotate_left
    · (intro w hSw; (try dsimp only at hSw); go_simp; try (with_reducible rfl))
    try simp only [Act.put, List.getElem_toArray, List.getElem_cons_zero, List.getElem_cons_succ, List.setIfInBounds_toArray, List.set_cons_zero, List.set_cons_succ]
    refine wpAnyH_done (by kernel_rfl) ?_ _
    clear zS zS5 cAt
    go_wp2
    exact bodyPost_ret (v := .tuple #[.slice a5 C.length c5, .bool d]) (by simp [results, Tryz.results63, go_sem]) rfl HP5.out
/-- the step with the index i -/
def dlZ (E : List Int) (D : List Bool) (i : Int) : Bool := if inP i E.length = true then D.getD i.toNat false else false
set_option linter.unusedSimpArgs false in
set_option maxRecDepth 100000 in
set_option maxHeartbeats 4000000 in
/-- cnf.Proof.Step -/
theorem stepZ_any (w : World) (B b : Nat) (va ve vd : Value) (L E : List Int) (D : List Bool) (hp : PF w B b va ve vd L E D) (hE : EOk L E) (hD : D.length = E.length) (hL : E.length ≤ 1000000000) (i : Int) :
    Calls Tryz.prog 63 #[.pointer (some ⟨b, 0, none⟩), .int .i64 i] w (SzPost w va (clZ L E i) (dlZ E D i)) := by
  unfold clZ dlZ
  by_cases hb : inP i E.length = true
  · rw [if_pos hb, if_pos hb]
    obtain ⟨k, rfl, hk⟩ := inP_some hb
    rw [Int.toNat_natCast]
    exact stepN_any w B b va ve vd L E D hp hE hD hL k hk
  · rw [if_neg hb, if_neg hb]
    have hin := hide (pInRangeZ_any w B b va ve L E i hp.ar)
    rw [Bool.not_eq_true] at hb
    rw [hb] at hin
    have HP5 := hide (show SzPost w va [] false (.returned (.tuple #[.slice none 0 0, .bool false])) w from ⟨none, 0, rfl, (fun j x hx => by cases hx), (fun g off z => by cases z), Below.refl _ _⟩)
    clear hb hE hL hp hD
    go_enter Tryz.func63, Tryz.ntmps63
    go_wp2_with fail
    refine hin.out.mono ?_
    rintro e w' ⟨rfl, hw⟩
    rw [hw]
    clear hin hw w'
    go_wp2
    exact bodyPost_ret (v := .tuple #[.slice none 0 0, .bool false]) (by simp [results, Tryz.results63, go_sem]) rfl HP5.out
theorem ar_cl {w : World} {B b o : Nat} {a : Option Addr} {c : Nat} {ve : Value} {L E : List Int} (h : AR w B b o (.slice a L.length c) ve L E) : CL w a L := by
  have := (cl_sub h.r0 0 L.length (Nat.zero_le _) (Nat.le_refl _)).1
  rw [map_add0, List.take_length, List.drop_zero] at this
  exact this
set_option linter.unusedSimpArgs false in
set_option maxRecDepth 100000 in
set_option maxHeartbeats 4000000 in
/-- cnf.Proof.MaxVar -/
theorem pMaxVar_any (w : World) (B b : Nat) (va ve vd : Value) (L E : List Int) (D : List Bool) (hp : PF w B b va ve vd L E D) (hok : ∀ x ∈ L, LitOk x) (hL : L.length ≤ 1000000000) :
    Calls Tryz.prog 66 #[.pointer (some ⟨b, 0, none⟩)] w fun e w' => e = .returned (.int .i32 (mxP L)) ∧ w' = w := by
  obtain ⟨a, c, rfl⟩ := own_form hp.ar.r0
  have c0 := hp.ar.c0
  have cc := hide (maxVar_any w a c L (ar_cl hp.ar) hok hL)
  clear hp hok
  generalize mxP L = R at *
  go_enter Tryz.func66, Tryz.ntmps66
  go_wp2_with fail
  refine cc.out.mono ?_
  rintro e w' ⟨rfl, hw⟩
  rw [hw]
  clear hw w' cc
  go_wp2
  go_ret
  exact ⟨rfl, rfl⟩
/-- does a step from i on add the empty clause -/
def aeP (L E : List Int) (D : List Bool) : Nat → Nat → Bool
  | _, 0 => false
  | i, n + 1 => if D.getD i false = false ∧ (clP L E i).length = 0 then true else aeP L E D (i + 1) n
set_option linter.unusedSimpArgs false in
set_option maxRecDepth 100000 in
set_option maxHeartbeats 8000000 in
/-- cnf.Proof.AddsEmptyClause -/
theorem addsEmpty_any (w : World) (B b : Nat) (va ve vd : Value) (L E : List Int) (D : List Bool) (hp : PF w B b va ve vd L E D) (hE : EOk L E) (hD : D.length = E.length) (hL : E.length ≤ 1000000000) :
    Calls Tryz.prog 67 #[.pointer (some ⟨b, 0, none⟩)] w fun e w' => e = .returned (.bool (aeP L E D 0 E.length)) ∧ Below w.heap.size w w' := by
  have HP := hide hp
  have HEO := hide hE
  obtain ⟨ad, cd, rfl⟩ := own_form hp.r2
  clear hp hE
  obtain ⟨R, hR⟩ : ∃ R, aeP L E D 0 E.length = R := ⟨_, rfl⟩
  have HRR := hide hR
  rw [hR]
  clear hR
  obtain ⟨n, hn⟩ : ∃ n, E.length = n := ⟨_, rfl⟩
  have HN := hide hn
  rw [hn] at hL HRR hD
  clear hn
  have HDL := hide hD
  go_enter Tryz.func67, Tryz.ntmps67
  go_wp2_with fail
  go_loopw [3] (fun s3 wx => ∃ (i : Nat), s3 = .int .i64 i ∧ i ≤ n ∧ Hid (aeP L E D i (n - i) = R) ∧ Hid (Below w.heap.size w wx)) (fun s3 _ => n - (intOf s3).toNat)
  case atStart => exact ⟨0, rfl, Nat.zero_le _, HRR, Below.refl _ _⟩
  case round =>
    clear HRR
    obtain ⟨i, rfl, hi, HS, HB⟩ := hrel
    have HPW := hide (HP.out.below HB.out)
    have hnc := hide (numSteps_any wr B b va ve L E HPW.out.ar)
    rw [HN.out] at hnc
    have hw1 : wrap64 ((i : Int) + 1) = ((i + 1 : Nat) : Int) := by unfold wrap64; omega
    by_cases hlt : i < n
    · have hib : decide ((i : Int) < (n : Int)) = true := decide_eq_true (by omega)
      have cAt := hide (atZ_any wr B b 0 va ve L E HPW.out.ar HEO.out (by rw [HN.out]; exact hL) i (by rw [HN.out]; exact hlt))
      have hde : D[i]? = some (D.getD i false) := by rw [List.getD_eq_getElem?_getD, List.getElem?_eq_getElem (by omega)]; rfl
      obtain ⟨gd, cd', e1, hcd, hid⟩ := row_cell HPW.out.r2 (i := i) (u := .bool (D.getD i false)) (by rw [List.getElem?_map, hde]; rfl)
      have c2 := HPW.out.c2
      rw [hD] at e1 c2
      injection e1 with e1 e2 e3
      subst e1
      obtain ⟨m, hm⟩ : ∃ m, n - i = m + 1 := ⟨n - i - 1, by omega⟩
      have HM : Hid (n - (i + 1) = m) := by show _ = _; omega
      rw [hm] at HS
      unfold aeP at HS
      have hii : (i : Int) < (n : Int) := by omega
      clear hm hde e2 e3 hD hid HPW
      generalize clP L E i = C at *
      generalize D.getD i false = d at *
      go_wp2_with fail
      refine hnc.out.mono ?_
      rintro e w' ⟨rfl, hw⟩
      rw [hw]
      clear hnc hw w'
      cases d
      · go_wp2_with fail
        refine cAt.out.mono ?_
        rintro e w5 ⟨a5, c5, rfl, hc5, hg5, b5⟩
        have HB5 : Hid (Below w.heap.size w w5) := lec HB.out b5
        clear hc5 b5 cAt hg5 HB c2 hcd
        obtain ⟨cl, hcl⟩ : ∃ cl, C.length = cl := ⟨_, rfl⟩
        rw [hcl] at HS ⊢
        clear hcl
        by_cases h0 : cl = 0
        · rw [if_pos (by simp [h0])] at HS
          subst h0
          go_wp2
          go_ret
          exact ⟨ret_bool HS.out, HB5.out⟩
        · have h0b : ((cl : Int) == 0) = false := by simp; omega
          rw [if_neg (fun z => h0 z.2)] at HS
          have h0c : ¬ cl = 0 := h0
          clear h0
          go_wp2
          go_roundw
          case rel => exact ⟨i + 1, by go_num, by omega, (by show _ = _; rw [HM.out]; exact HS.out), HB5⟩
          case measure => (simp [intOf]; try omega)
      · rw [if_neg (fun z => by cases z.1)] at HS
        clear cAt
        go_wp2
        go_roundw
        case rel => exact ⟨i + 1, by go_num, by omega, (by show _ = _; rw [HM.out]; exact HS.out), HB⟩
        case measure => (simp [intOf]; try omega)
    · have hib : decide ((i : Int) < (n : Int)) = false := decide_eq_false (by omega)
      rw [show n - i = 0 by omega] at HS
      have HQ : Hid (false = R) := HS.out
      clear HS
      go_wp2_with fail
      refine hnc.out.mono ?_
      rintro e w' ⟨rfl, hw⟩
      rw [hw]
      clear hnc hw w'
      go_wp2
      go_ret
      exact ⟨ret_bool HQ.out, HB.out⟩
/-! ### Equal, exactly -/
theorem eq_drop {α : Type} [BEq α] [LawfulBEq α] {A B : List α} {i : Nat} {x y : α} (hx : A[i]? = some x) (hy : B[i]? = some y) : (A.drop i == B.drop i) = ((x == y) && (A.drop (i + 1) == B.drop (i + 1))) := by
  rw [drop_consG hx, drop_consG hy]
  rfl
set_option linter.unusedSimpArgs false in
set_option maxRecDepth 100000 in
set_option maxHeartbeats 8000000 in
/-- cnf.arena.equal -/
theorem arEqualZ_any (w : World) (B1 b1 o1 B2 b2 o2 : Nat) (va1 ve1 va2 ve2 : Value) (L E M F : List Int) (hp : AR w B1 b1 o1 va1 ve1 L E) (hq : AR w B2 b2 o2 va2 ve2 M F) (hl : E.length ≤ 1000000000) (hll : L.length ≤ 1000000000) :
    Calls Tryz.prog 132 #[.pointer (some ⟨b1, o1, none⟩), .pointer (some ⟨b2, o2, none⟩)] w (SaPost w ((E == F) && (L == M))) := by
  have HP := hide hp
  have HQ := hide hq
  obtain ⟨a1, c1, rfl⟩ := own_form hp.r0
  obtain ⟨a2, c2, rfl⟩ := own_form hp.r1
  obtain ⟨a3, c3, rfl⟩ := own_form hq.r0
  obtain ⟨a4, c4, rfl⟩ := own_form hq.r1
  have x1 := hp.c0
  have x2 := hp.c1
  have x3 := hq.c0
  have x4 := hq.c1
  clear hp hq
  obtain ⟨R, hR⟩ : ∃ R, ((E == F) && (L == M)) = R := ⟨_, rfl⟩
  have HRR := hide hR
  rw [hR]
  clear hR
  by_cases hEF : E.length = F.length
  · by_cases hLM : L.length = M.length
    · rw [← hEF] at x4
      rw [← hLM] at x3
      have HEF := hide hEF
      have HLM := hide hLM
      clear hEF hLM
      have hn : ((E.length : Int) != (E.length : Int)) = false := by simp
      have hn2 : ((L.length : Int) != (L.length : Int)) = false := by simp
      go_enter Tryz.func132, Tryz.ntmps132
      go_upto_region 1 with fail
      go_quiet (fail)
      rename_i nq
      have HB := hide (belN w nq)
      clear x1 x2 x3 x4
      generalize w.drewN nq = w1 at *
      have x2 := (HP.out.below HB.out).c1
      go_wp2
      go_loopw [5, 6, 38] (fun _ _ s38 wx => ∃ (i : Nat), s38 = .int .i64 i ∧ i ≤ E.length ∧ Hid (((E.drop i == F.drop i) && (L == M)) = R) ∧ Hid (Below w.heap.size w wx)) (fun _ _ s38 _ => E.length - (intOf s38).toNat)
      case atStart => exact ⟨0, rfl, Nat.zero_le _, HRR, HB⟩
      case round =>
        clear HB x2 HRR
        obtain ⟨i, rfl, hi, HS, HB⟩ := hrel
        by_cases hlt : i < E.length
        · obtain ⟨x, hx⟩ : ∃ x, E[i]? = some x := ⟨_, List.getElem?_eq_getElem hlt⟩
          obtain ⟨y, hy⟩ : ∃ y, F[i]? = some y := ⟨_, List.getElem?_eq_getElem (by have := HEF.out; omega)⟩
          have x4 := (HQ.out.below HB.out).c1
          rw [← HEF.out] at x4
          obtain ⟨g1, k1, ea, y1, -⟩ := row_cell (HP.out.below HB.out).r1 (i := i) (u := .int .i64 x) (by rw [List.getElem?_map, hx]; rfl)
          injection ea with ea
          subst ea
          obtain ⟨g2, k2, ea, y2, -⟩ := row_cell (HQ.out.below HB.out).r1 (i := i) (u := .int .i64 y) (by rw [List.getElem?_map, hy]; rfl)
          injection ea with ea
          subst ea
          rw [eq_drop hx hy] at HS
          clear hx hy
          have h1 : decide ((i : Int) < (E.length : Int)) = true := by simp; omega
          have h1n : decide (i < E.length) = true := by simp; omega
          have h2 : decide ((i : Int) < 0) = false := by simp
          have h3 : (i : Int) < (E.length : Int) := by omega
          have h4 : IntKind.i64.wrap ((i : Int) + 1) = (i : Int) + 1 := by rw [IntKind.wrap_i64]; omega
          by_cases hxy : x = y
          · have h5 : (x != y) = false := by simp [hxy]
            have HS2 : Hid (((E.drop (i + 1) == F.drop (i + 1)) && (L == M)) = R) := by
              show _ = _
              have := HS.out
              rw [show (x == y) = true by simp [hxy], Bool.true_and] at this
              exact this
            clear hxy HS
            go_wp2
            go_roundw
            case rel => exact ⟨i + 1, by simp, by omega, HS2, HB⟩
            case measure => simp [intOf]; omega
          · have h5 : (x != y) = true := by simp [hxy]
            have HS2 : Hid (false = R) := by
              show _ = _
              have := HS.out
              rw [show (x == y) = false by simp [hxy], Bool.false_and, Bool.false_and] at this
              exact this
            clear hxy HS
            go_wp2
            go_ret
            exact ⟨ret_bool HS2.out, HB.out⟩
        · have h1 : decide ((i : Int) < (E.length : Int)) = false := by simp; omega
          have h1n : decide (i < E.length) = false := by simp; omega
          have HS3 : Hid ((L == M) = R) := by
            show _ = _
            have := HS.out
            rw [List.drop_of_length_le (by omega), List.drop_of_length_le (by have := HEF.out; omega)] at this
            simpa using this
          clear hlt HS
          have x1 := (HP.out.below HB.out).c0
          go_wp2
          go_loopw [7, 8, 58] (fun _ _ s58 wx => ∃ (i : Nat), s58 = .int .i64 i ∧ i ≤ L.length ∧ Hid ((L.drop i == M.drop i) = R) ∧ Hid (Below w.heap.size w wx)) (fun _ _ s58 _ => L.length - (intOf s58).toNat)
          case atStart => exact ⟨0, rfl, Nat.zero_le _, HS3, HB⟩
          case round =>
            clear HB x1 h1 h1n hi HS3
            obtain ⟨j, rfl, hj, HS, HB⟩ := hrel
            by_cases hlt : j < L.length
            · obtain ⟨x, hx⟩ : ∃ x, L[j]? = some x := ⟨_, List.getElem?_eq_getElem hlt⟩
              obtain ⟨y, hy⟩ : ∃ y, M[j]? = some y := ⟨_, List.getElem?_eq_getElem (by have := HLM.out; omega)⟩
              have x3 := (HQ.out.below HB.out).c0
              rw [← HLM.out] at x3
              obtain ⟨g1, k1, ea, y1, -⟩ := row_cell (HP.out.below HB.out).r0 (i := j) (u := .int .i32 x) (by rw [List.getElem?_map, hx]; rfl)
              injection ea with ea
              subst ea
              obtain ⟨g2, k2, ea, y2, -⟩ := row_cell (HQ.out.below HB.out).r0 (i := j) (u := .int .i32 y) (by rw [List.getElem?_map, hy]; rfl)
              injection ea with ea
              subst ea
              rw [eq_drop hx hy] at HS
              clear hx hy
              have h1 : decide ((j : Int) < (L.length : Int)) = true := by simp; omega
              have h1n : decide (j < L.length) = true := by simp; omega
              have h2 : decide ((j : Int) < 0) = false := by simp
              have h3 : (j : Int) < (L.length : Int) := by omega
              have h4 : IntKind.i64.wrap ((j : Int) + 1) = (j : Int) + 1 := by rw [IntKind.wrap_i64]; omega
              by_cases hxy : x = y
              · have h5 : (x != y) = false := by simp [hxy]
                have HS2 : Hid ((L.drop (j + 1) == M.drop (j + 1)) = R) := by
                  show _ = _
                  have := HS.out
                  rw [show (x == y) = true by simp [hxy], Bool.true_and] at this
                  exact this
                clear hxy HS
                go_wp2
                go_roundw
                case rel => exact ⟨j + 1, by simp, by omega, HS2, HB⟩
                case measure => simp [intOf]; omega
              · have h5 : (x != y) = true := by simp [hxy]
                have HS2 : Hid (false = R) := by
                  show _ = _
                  have := HS.out
                  rw [show (x == y) = false by simp [hxy], Bool.false_and] at this
                  exact this
                clear hxy HS
                go_wp2
                go_ret
                exact ⟨ret_bool HS2.out, HB.out⟩
            · have h1 : decide ((j : Int) < (L.length : Int)) = false := by simp; omega
              have h1n : decide (j < L.length) = false := by simp; omega
              have HS3 : Hid (true = R) := by
                show _ = _
                have := HS.out
                rw [List.drop_of_length_le (by omega), List.drop_of_length_le (by have := HLM.out; omega)] at this
                exact this
              clear HS
              go_wp2
              go_ret
              exact ⟨ret_bool HS3.out, HB.out⟩
    · have HS : Hid (false = R) := by
        show _ = _
        rw [← HRR.out, show (L == M) = false from by rw [beq_eq_false_iff_ne]; intro z; exact hLM (by rw [z]), Bool.and_false]
      have hn : ((E.length : Int) != (F.length : Int)) = false := by simp [hEF]
      have hn2 : ((L.length : Int) != (M.length : Int)) = true := by simp; omega
      rw [← hEF] at x4 hn
      clear HRR hEF hLM HP HQ
      generalize L.length = l1 at *
      generalize M.length = l2 at *
      generalize E.length = e1 at *
      go_enter Tryz.func132, Tryz.ntmps132
      go_upto_region 1 with fail
      go_quiet (fail)
      rename_i nq
      go_wp2
      go_ret
      exact ⟨ret_bool HS.out, belN w nq⟩
  · have HS : Hid (false = R) := by
      show _ = _
      rw [← HRR.out, show (E == F) = false from by rw [beq_eq_false_iff_ne]; intro z; exact hEF (by rw [z]), Bool.false_and]
    have hn : ((E.length : Int) != (F.length : Int)) = true := by simp; omega
    clear HRR hEF HP HQ
    generalize L.length = l1 at *
    generalize M.length = l2 at *
    generalize E.length = e1 at *
    generalize F.length = e2 at *
    go_enter Tryz.func132, Tryz.ntmps132
    go_upto_region 1 with fail
    go_quiet (fail)
    rename_i nq
    go_wp2
    go_ret
    exact ⟨ret_bool HS.out, belN w nq⟩
end Go.Proofs.Qxb6500773aGreat
