import Derived.Test.Qxb6500777aNm2
namespace Go.Proofs.Qxb6500777a.Nm
open Go.RowKit

/-- A small number has at most one digit. -/
theorem IsI.small {N : Nat} {w : World} {s : Bool} {a : Option Addr} {n c : Nat} {z : Int} (h : IsI N w s a n c z) (h0 : 0 ≤ z) (h1 : z < 4294967296) : s = false ∧ ((n = 0 ∧ z = 0) ∨ (n = 1 ∧ ∃ b off, a = some ⟨b, off, none⟩ ∧ w.cell? ⟨b, off, none⟩ = some (.int .u32 z))) := by
  have hs : s = false := by
    by_cases hn : n = 0
    · exact h.sign hn
    · cases s
      · rfl
      · have := (h.neg_iff hn).2 rfl
        omega
  refine ⟨hs, ?_⟩
  obtain ⟨D, m1, m2, m3⟩ := h.digits
  subst hs
  simp only [sg, Bool.false_eq_true, if_false] at m3
  rcases (by omega : n = 0 ∨ n = 1 ∨ 2 ≤ n) with rfl | rfl | h2
  · left; exact ⟨rfl, by rw [m3]; rfl⟩
  · right
    obtain ⟨b, off, rfl, hc, -, -⟩ := m1 0 (by omega)
    refine ⟨rfl, b, off, rfl, ?_⟩
    rw [m3]
    simpa [Sm] using hc
  · exfalso
    obtain ⟨k, rfl⟩ : ∃ k, n = k + 1 := ⟨n - 1, by omega⟩
    have ht := Sm_top m1.dig (by rcases m2 with z | z; omega; simpa using z)
    have := Bpow_mono (m := 1) (n := k) (by omega)
    rw [← m3] at ht
    omega
/-- A number in its box. -/
structure HB1 (w wx : World) (p N : Nat) (s : Bool) (a : Option Addr) (n c : Nat) (z : Int) : Prop where
  c0 : wx.cell? ⟨p, 0, none⟩ = some (.bool s)
  c1 : wx.cell? ⟨p, 1, none⟩ = some (.slice a n c)
  i : IsI N wx s a n c z
  bel : Below w.heap.size w wx
theorem HB1.below {w wx wy : World} {p N : Nat} {s : Bool} {a : Option Addr} {n c : Nat} {z : Int} (h : HB1 w wx p N s a n c z) (hb : Below wx.heap.size wx wy) : HB1 w wy p N s a n c z := ⟨cellKeep hb h.c0, cellKeep hb h.c1, h.i.below hb, lec h.bel hb⟩
theorem HB1.drew {w wx : World} {p N : Nat} {s : Bool} {a : Option Addr} {n c : Nat} {z : Int} (h : HB1 w wx p N s a n c z) : HB1 w wx.drew p N s a n c z := h.below (Below.refl _ _).drew
set_option maxRecDepth 100000 in
set_option maxHeartbeats 2000000 in
/-- fixmathm.small, of a number in 0..2^30. -/
theorem small_any (w : World) (s : Bool) (a : Option Addr) (n c N : Nat) (z : Int) (h0 : 0 ≤ z) (h1 : z ≤ 1073741824) (hi : IsI N w s a n c z) :
    Calls Try.prog 49 #[.agg #[.bool s, .slice a n c]] w fun e w' => e = .returned (.int .i64 z) ∧ Below w.heap.size w w' := by
  have HH : Hid (HB1 w (w.alloc (.cells #[.bool s, .slice a n c] 83)) w.heap.size N s a n c z) := ⟨by simp [go_sem], by simp [go_sem], hi.al _, (Below.refl _ _).alloc (Nat.le_refl _) _⟩
  clear hi
  go_enter Try.func49, Try.ntmps49
  go_upto_region 1 with fail
  generalize w.alloc (.cells #[.bool s, .slice a n c] 83) = W at *
  generalize w.heap.size = p at HH ⊢
  have c0 := HH.out.c0
  have c1 := HH.out.c1
  have HS := hide (HH.out.i.small h0 (by omega)).2
  rcases HS.out with ⟨rfl, rfl⟩ | ⟨rfl, b, off, rfl, hcell⟩
  · go_wp2
    go_loopw [3, 4] (fun u i wr => u = .int .u64 0 ∧ i = .int .i64 (-1) ∧ wr = W) (fun _ _ _ => 0)
    case atStart => exact ⟨rfl, rfl, rfl⟩
    case round =>
      obtain ⟨rfl, rfl, rfl⟩ := hrel
      go_wp2
      go_ret
      exact ⟨rfl, HH.out.bel⟩
  · have hor := or_hi z 0 h0 (by omega) (by omega) (by omega)
    rw [show (0 : Int) * 4294967296 + z = z by omega, show (0 : Int) * 4294967296 = 0 by omega] at hor
    have hzw : IntKind.i64.wrap z = z := by rw [IntKind.wrap_i64]; omega
    go_wp2
    go_loopw [3, 4] (fun u i wr => ((u = .int .u64 0 ∧ i = .int .i64 0) ∨ (u = .int .u64 z ∧ i = .int .i64 (-1))) ∧ wr = W) (fun _ i _ => (intOf i + 1).toNat)
    case atStart => exact ⟨.inl ⟨rfl, rfl⟩, rfl⟩
    case round =>
      obtain ⟨⟨rfl, rfl⟩ | ⟨rfl, rfl⟩, rfl⟩ := hrel
      · go_wp2
        go_roundw
        case rel => exact ⟨.inr ⟨rfl, rfl⟩, trivial⟩
        case measure => simp [intOf]
      · go_wp2
        go_ret
        exact ⟨rfl, HH.out.bel⟩
set_option linter.unusedSimpArgs false in
set_option maxRecDepth 100000 in
set_option maxHeartbeats 4000000 in
/-- fixmathm.toTable -/
theorem toTab_any (w : World) (s : Bool) (a : Option Addr) (n c : Nat) (z v : Int) (h0 : 0 ≤ z) (hv : (z + 8589934592) / 17179869184 = v) (hv0 : 0 ≤ v) (hv1 : v ≤ 1073741824) (hi : IsI 2000 w s a n c z) :
    Calls Try.prog 39 #[.agg #[.bool s, .slice a n c]] w fun e w' => e = .returned (.int .i64 v) ∧ Below w.heap.size w w' := by
  have HH : Hid (HB1 w (w.alloc (.cells #[.bool s, .slice a n c] 83)) w.heap.size 2000 s a n c z) := ⟨by simp [go_sem], by simp [go_sem], hi.al _, (Below.refl _ _).alloc (Nat.le_refl _) _⟩
  have HV := hide hv
  clear hi hv
  go_enter Try.func39, Try.ntmps39
  go_upto_region 1 with fail
  generalize w.alloc (.cells #[.bool s, .slice a n c] 83) = W at *
  generalize w.heap.size = p at HH ⊢
  have zS := And.intro HH.out.c0 HH.out.c1
  refine wp_region_held_drew (S := fun w' => w'.cell? ⟨p, 0, none⟩ = some (.bool s) ∧ w'.cell? ⟨p, 1, none⟩ = some (.slice a n c)) (by kernel_rfl) zS (fun hHeld => ?_)
  refine wpAnyH_take (i := 0) (v := ?_) rfl (by kernel_rfl) (by kernel_rfl) (by kernel_rfl) (fun _ _ _ h => h) (Or.inl ⟨by rfl, ?_⟩) (by assumption) ?_
  rotate_left
  · (intro w hSw; (try dsimp only at hSw); go_simp; try (with_reducible rfl))
  try simp only [Act.put, List.getElem_toArray, List.getElem_cons_zero, List.getElem_cons_succ, List.setIfInBounds_toArray, List.set_cons_zero, List.set_cons_succ]
  refine wpAnyH_ready (rs := [1]) (by kernel_rfl) (by simp) ?_
  refine (AllReadyH.cons rfl (fun K hK => ?_) AllReadyH.nil)
  · refine step_call rfl 52 #[.int .i64 8589934592] (by simp [go_sem]) (Of_any _ 8589934592 (by omega) (by omega)) ?_
    rintro e w2 ⟨s2, a2, n2, c2, rfl, i2, b2⟩
    have I2 := hide i2
    have HH2 := hide (HH.out.below (of_drew b2))
    have z2 := And.intro HH2.out.c0 HH2.out.c1
    clear i2 b2 HH
    refine ⟨_, rfl, ?_⟩
    refine hK.out _ _ ?_ (fun hHeld => ?_)
    · (first | with_reducible exact zS | with_reducible exact z2 | with_reducible exact z3 | with_reducible exact z4 | with_reducible exact z5)
    clear hK K
    try simp only [Act.put, List.getElem_toArray, List.getElem_cons_zero, List.getElem_cons_succ, List.setIfInBounds_toArray, List.set_cons_zero, List.set_cons_succ]
    refine wpAnyH_ready (rs := [2]) (by kernel_rfl) (by simp) ?_
    refine (AllReadyH.cons rfl (fun K hK => ?_) AllReadyH.nil)
    · refine step_call rfl 51 #[.agg #[.bool s, .slice a n c], .agg #[.bool s2, .slice a2 n2 c2]] (by simp [go_sem]) (Add_any _ s s2 a a2 n n2 c c2 2000 2 2000 z 8589934592 (by omega) (by omega) (by omega) HH2.out.i I2.out) ?_
      rintro e w3 ⟨s3, a3, n3, c3, rfl, i3, b3⟩
      have I3 := hide i3
      have HH3 := hide (HH2.out.below b3)
      have z3 := And.intro HH3.out.c0 HH3.out.c1
      clear i3 b3 HH2 I2
      refine ⟨_, rfl, ?_⟩
      refine hK.out _ _ ?_ (fun hHeld => ?_)
      · (first | with_reducible exact zS | with_reducible exact z2 | with_reducible exact z3 | with_reducible exact z4 | with_reducible exact z5)
      clear hK K
      try simp only [Act.put, List.getElem_toArray, List.getElem_cons_zero, List.getElem_cons_succ, List.setIfInBounds_toArray, List.set_cons_zero, List.set_cons_succ]
      refine wpAnyH_ready (rs := [3]) (by kernel_rfl) (by simp) ?_
      refine (AllReadyH.cons rfl (fun K hK => ?_) AllReadyH.nil)
      · refine step_call rfl 50 #[.agg #[.bool s3, .slice a3 n3 c3], .int .i64 34] (by simp [go_sem]) (halve34 _ s3 a3 n3 c3 (2000 + 1) (z + 8589934592) (by omega) (by omega) I3.out) ?_
        rintro e w4 ⟨s4, a4, n4, c4, rfl, i4, b4⟩
        rw [HV.out] at i4
        have I4 := hide i4
        have HH4 := hide (HH3.out.below b4)
        have z4 := And.intro HH4.out.c0 HH4.out.c1
        clear i4 b4 HH3 I3
        refine ⟨_, rfl, ?_⟩
        refine hK.out _ _ ?_ (fun hHeld => ?_)
        · (first | with_reducible exact zS | with_reducible exact z2 | with_reducible exact z3 | with_reducible exact z4 | with_reducible exact z5)
        clear hK K
        try simp only [Act.put, List.getElem_toArray, List.getElem_cons_zero, List.getElem_cons_succ, List.setIfInBounds_toArray, List.set_cons_zero, List.set_cons_succ]
        refine wpAnyH_ready (rs := [4]) (by kernel_rfl) (by simp) ?_
        refine (AllReadyH.cons rfl (fun K hK => ?_) AllReadyH.nil)
        · refine step_call rfl 49 #[.agg #[.bool s4, .slice a4 n4 c4]] (by simp [go_sem]) (small_any _ s4 a4 n4 c4 (2000 + 1) v hv0 hv1 I4.out) ?_
          rintro e w5 ⟨rfl, b5⟩
          have HH5 := hide (HH4.out.below b5)
          have z5 := And.intro HH5.out.c0 HH5.out.c1
          clear b5 HH4 I4
          refine ⟨_, rfl, ?_⟩
          refine hK.out _ _ ?_ (fun hHeld => ?_)
          · (first | with_reducible exact zS | with_reducible exact z2 | with_reducible exact z3 | with_reducible exact z4 | with_reducible exact z5)
          clear hK K
          try simp only [Act.put, List.getElem_toArray, List.getElem_cons_zero, List.getElem_cons_succ, List.setIfInBounds_toArray, List.set_cons_zero, List.set_cons_succ]
          refine wpAnyH_take (i := 5) (v := ?_) rfl (by kernel_rfl) (by kernel_rfl) (by kernel_rfl) (fun _ _ _ h => h) (Or.inl ⟨by rfl, ?_⟩) (by assumption) ?_
          rotate_left
          · (intro w hSw; (try dsimp only at hSw); go_simp; try (with_reducible rfl))
          try simp only [Act.put, List.getElem_toArray, List.getElem_cons_zero, List.getElem_cons_succ, List.setIfInBounds_toArray, List.set_cons_zero, List.set_cons_succ]
          refine wpAnyH_done (by kernel_rfl) ?_ _
          go_wp2
          go_ret
          exact ⟨rfl, HH5.out.bel⟩
def rotP : Nat → Int × Int → Int × Int
  | 0, p => p
  | q + 1, p => rotP q (p.2, -p.1)
theorem rotP_comm : ∀ (q : Nat) (p : Int × Int), rotP q (p.2, -p.1) = ((rotP q p).2, -(rotP q p).1)
  | 0, p => rfl
  | q + 1, p => by
    show rotP q (-p.1, -p.2) = ((rotP q (p.2, -p.1)).2, -(rotP q (p.2, -p.1)).1)
    have := rotP_comm q (p.2, -p.1)
    simpa using this
theorem rotP_succ (q : Nat) (p : Int × Int) : rotP (q + 1) p = ((rotP q p).2, -(rotP q p).1) := rotP_comm q p

def allB (p : Nat → Bool) : Nat → Bool
  | 0 => true
  | k + 1 => p k && allB p k
theorem allB_at {p : Nat → Bool} : ∀ {n : Nat}, allB p n = true → ∀ i, i < n → p i = true
  | 0, _, i, hi => by omega
  | n + 1, h, i, hi => by
    unfold allB at h
    rw [Bool.and_eq_true] at h
    rcases Nat.lt_or_ge i n with z | z
    · exact allB_at h.2 i z
    · have : i = n := by omega
      subst this; exact h.1
def sX (r : Nat) : Int := ((serP 60 (angP r * angP r / 18446744073709551616) (angP r) (angP r) true 2).getD 0 + 8589934592) / 17179869184
def sY (r : Nat) : Int := ((serP 60 (angP r * angP r / 18446744073709551616) 18446744073709551616 18446744073709551616 true 1).getD 0 + 8589934592) / 17179869184
def okS (S : Option Int) : Bool := match S with
  | some s => decide (0 ≤ s ∧ (s + 8589934592) / 17179869184 ≤ 1073741824)
  | none => false
def serB (r : Nat) : Bool :=
  okS (serP 60 (angP r * angP r / 18446744073709551616) (angP r) (angP r) true 2) &&
  okS (serP 60 (angP r * angP r / 18446744073709551616) 18446744073709551616 18446744073709551616 true 1)
set_option maxRecDepth 1000000 in
theorem serAll : allB serB 1024 = true := by decide +kernel
theorem ok_some {S : Option Int} (h : okS S = true) : ∃ s, S = some s ∧ 0 ≤ s ∧ (s + 8589934592) / 17179869184 = (S.getD 0 + 8589934592) / 17179869184 ∧ (S.getD 0 + 8589934592) / 17179869184 ≤ 1073741824 ∧ 0 ≤ (S.getD 0 + 8589934592) / 17179869184 := by
  unfold okS at h
  split at h
  · rename_i s
    simp only [decide_eq_true_eq] at h
    exact ⟨s, rfl, h.1, rfl, h.2, by show 0 ≤ (s + 8589934592) / 17179869184; omega⟩
  · cases h
/-- The direction of step s. -/
def dirP (s : Nat) : Int × Int := rotP (s / 1024) (sX (s % 1024), sY (s % 1024))
theorem dir_low {r : Nat} (h : r < 1024) : dirP r = (sX r, sY r) := by
  unfold dirP
  rw [show r / 1024 = 0 by omega, show r % 1024 = r by omega]
  rfl
theorem ser_at (r : Nat) (h : r < 1024) : (∃ s, serP 60 (angP r * angP r / 18446744073709551616) (angP r) (angP r) true 2 = some s ∧ 0 ≤ s ∧ (s + 8589934592) / 17179869184 = (dirP r).1 ∧ (dirP r).1 ≤ 1073741824 ∧ 0 ≤ (dirP r).1) ∧
    (∃ s, serP 60 (angP r * angP r / 18446744073709551616) 18446744073709551616 18446744073709551616 true 1 = some s ∧ 0 ≤ s ∧ (s + 8589934592) / 17179869184 = (dirP r).2 ∧ (dirP r).2 ≤ 1073741824 ∧ 0 ≤ (dirP r).2) := by
  have := allB_at serAll r h
  unfold serB at this
  rw [Bool.and_eq_true] at this
  rw [dir_low h]
  exact ⟨ok_some this.1, ok_some this.2⟩
theorem rot_bnd : ∀ (q : Nat) (p : Int × Int), (-1073741824 ≤ p.1 ∧ p.1 ≤ 1073741824 ∧ -1073741824 ≤ p.2 ∧ p.2 ≤ 1073741824) → (-1073741824 ≤ (rotP q p).1 ∧ (rotP q p).1 ≤ 1073741824 ∧ -1073741824 ≤ (rotP q p).2 ∧ (rotP q p).2 ≤ 1073741824)
  | 0, _, h => h
  | q + 1, p, h => by
    rw [rotP]
    exact rot_bnd q (p.2, -p.1) ⟨by dsimp only; omega, by dsimp only; omega, by dsimp only; omega, by dsimp only; omega⟩
theorem dir_bnd (t : Nat) (_ : t < 4096) : -1073741824 ≤ (dirP t).1 ∧ (dirP t).1 ≤ 1073741824 ∧ -1073741824 ≤ (dirP t).2 ∧ (dirP t).2 ≤ 1073741824 := by
  obtain ⟨⟨_, _, _, _, a1, a0⟩, ⟨_, _, _, _, b1, b0⟩⟩ := ser_at (t % 1024) (by omega)
  rw [dir_low (by omega)] at a1 a0 b1 b0
  unfold dirP
  exact rot_bnd _ _ ⟨by dsimp only at *; omega, a1, by dsimp only at *; omega, b1⟩
theorem be1 (w : World) (o : Obj) : Below w.heap.size w (w.alloc o) := (Below.refl _ _).alloc (Nat.le_refl _) o
theorem belA (w : World) (o : Obj) : Below w.heap.size w (w.alloc o) := (Below.refl _ _).alloc (Nat.le_refl _) o
def oneD : Nat → Int := fun i => if i = 2 then 1 else 0
theorem one_val : Sm oneD 3 = 18446744073709551616 := by decide
theorem one_var (w : World) : VarI 130 ((w.alloc (.cells #[.int .u32 0, .int .u32 0, .int .u32 1] 80)).alloc (.cells #[.bool false, .slice (some ⟨w.heap.size, 0, none⟩) 3 3] 83)) (w.alloc (.cells #[.int .u32 0, .int .u32 0, .int .u32 1] 80)).heap.size 18446744073709551616 := by
  refine varNew ⟨Nat.le_refl _, by omega, by omega, oneD, ?_, Or.inr (by decide), by rw [one_val]; rfl⟩
  intro i hi
  match i, hi with
  | 0, _ => exact ⟨w.heap.size, 0, rfl, by simp [oneD, go_sem], by decide, by decide⟩
  | 1, _ => exact ⟨w.heap.size, 0, rfl, by simp [oneD, go_sem], by decide, by decide⟩
  | 2, _ => exact ⟨w.heap.size, 0, rfl, by simp [oneD, go_sem], by decide, by decide⟩
def isZ : Value → Bool
  | .int .i64 (.ofNat 0) => true
  | _ => false
theorem isZ_eq {v : Value} (h : isZ v = true) : v = .int .i64 0 := by
  unfold isZ at h
  split at h
  · rfl
  · cases h
def stripZ : Nat → List Value → Option (List Value)
  | 0, l => some l
  | _ + 1, [] => none
  | n + 1, v :: l => match isZ v with
    | true => stripZ n l
    | false => none
def goZ : Nat → List Value → Bool
  | 0, _ => true
  | n + 1, l => match stripZ 61 l with
    | some r => goZ n r
    | none => false
theorem stripZ_at : ∀ (n : Nat) (l r : List Value), stripZ n l = some r → (∀ i, i < n → l[i]? = some (.int .i64 0)) ∧ ∀ i, r[i]? = l[i + n]?
  | 0, l, r, h => by
    simp only [stripZ, Option.some.injEq] at h
    subst h
    exact ⟨fun i hi => absurd hi (Nat.not_lt_zero _), fun i => rfl⟩
  | n + 1, [], r, h => by simp [stripZ] at h
  | n + 1, v :: l, r, h => by
    rw [stripZ] at h
    split at h
    · rename_i hv
      obtain ⟨h1, h2⟩ := stripZ_at n l r h
      refine ⟨fun i hi => ?_, fun i => ?_⟩
      · rcases i with _ | i
        · rw [isZ_eq hv]; rfl
        · rw [List.getElem?_cons_succ]; exact h1 i (by omega)
      · rw [show i + (n + 1) = (i + n) + 1 by omega, List.getElem?_cons_succ]; exact h2 i
    · cases h
theorem goZ_at : ∀ (n : Nat) (l : List Value), goZ n l = true → ∀ i, i < n * 61 → l[i]? = some (.int .i64 0)
  | 0, l, _ => fun i hi => absurd hi (by omega)
  | n + 1, l, h => by
    rw [goZ] at h
    split at h
    · rename_i r hr
      obtain ⟨h1, h2⟩ := stripZ_at _ _ _ hr
      intro i hi
      by_cases hlt : i < 61
      · exact h1 i hlt
      · have := goZ_at n r h (i - 61) (by omega)
        rw [h2, show i - 61 + 61 = i by omega] at this
        exact this
    · cases h
theorem z68a : goZ 67 Try.zeroCells79.toList = true := by decide +kernel
theorem z68b : goZ 67 (Try.zeroCells79.toList.drop 4087) = true := by decide +kernel
theorem z68c : goZ 1 (Try.zeroCells79.toList.drop 8131) = true := by decide +kernel
theorem z68_at (i : Nat) (hi : i < 8192) : Try.zeroCells79[i]? = some (.int .i64 0) := by
  rw [← Array.getElem?_toList]
  rcases (by omega : i < 4087 ∨ (4087 ≤ i ∧ i < 8174) ∨ 8174 ≤ i) with h | ⟨h, h'⟩ | h
  · exact goZ_at _ _ z68a i (by omega)
  · have := goZ_at _ _ z68b (i - 4087) (by omega)
    rw [List.getElem?_drop, show 4087 + (i - 4087) = i by omega] at this
    exact this
  · have := goZ_at _ _ z68c (i - 8131) (by omega)
    rw [List.getElem?_drop, show 8131 + (i - 8131) = i by omega] at this
    exact this
/-- The model's table. -/
structure TB (w : World) (b : Nat) (X Y : Nat → Int) : Prop where
  x : ∀ s, s < 4096 → w.cell? ⟨b, s, none⟩ = some (.int .i64 (X s))
  y : ∀ s, s < 4096 → w.cell? ⟨b, 4096 + s, none⟩ = some (.int .i64 (Y s))
  fr : ∀ j, w.frozen? ⟨b, j, none⟩ = false
theorem TB.below {w w' : World} {b : Nat} {X Y : Nat → Int} (h : TB w b X Y) (hb : Below w.heap.size w w') : TB w' b X Y :=
  ⟨fun s hs => cellKeep hb (h.x s hs), fun s hs => cellKeep hb (h.y s hs), fun j => (hb.frozen (p := ⟨b, j, none⟩) (show b < w.heap.size from World.block_lt_of_cell? _ _ (h.x 0 (by omega)))).trans (h.fr j)⟩
theorem TB.setX {w : World} {b t : Nat} {X Y : Nat → Int} {v : Int} (h : TB w b X Y) : TB (w.setCell ⟨b, t, none⟩ (.int .i64 v)) b (upd X t v) Y ∨ ¬ t < 4096 := by
  by_cases ht : t < 4096
  · left
    refine ⟨fun s hs => ?_, fun s hs => ?_, fun j => by simpa [go_sem] using h.fr j⟩
    · by_cases e : s = t
      · subst e
        rw [World.cell?_setCell_same _ _ _ (h.x s hs), upd_same]
      · rw [World.cell?_setCell_other _ _ _ _ (by simp <;> omega), upd_other _ _ e]; exact h.x s hs
    · rw [World.cell?_setCell_other _ _ _ _ (by simp <;> omega)]; exact h.y s hs
  · exact .inr ht
theorem TB.setY {w : World} {b t : Nat} {X Y : Nat → Int} {v : Int} (h : TB w b X Y) : TB (w.setCell ⟨b, 4096 + t, none⟩ (.int .i64 v)) b X (upd Y t v) ∨ ¬ t < 4096 := by
  by_cases ht : t < 4096
  · left
    refine ⟨fun s hs => ?_, fun s hs => ?_, fun j => by simpa [go_sem] using h.fr j⟩
    · rw [World.cell?_setCell_other _ _ _ _ (by simp <;> omega)]; exact h.x s hs
    · by_cases e : s = t
      · subst e
        rw [World.cell?_setCell_same _ _ _ (h.y s hs), upd_same]
      · rw [World.cell?_setCell_other _ _ _ _ (by simp <;> omega), upd_other _ _ e]; exact h.y s hs
  · exact .inr ht
def DoneT (r q : Nat) (X Y : Nat → Int) : Prop := ∀ s, s < 4096 → (s % 1024 < r ∨ (s % 1024 = r ∧ s / 1024 < q)) → X s = (dirP s).1 ∧ Y s = (dirP s).2
theorem DoneT.step {r q t : Nat} {X Y : Nat → Int} {x y : Int} (h : DoneT r q X Y) (ht : q * 1024 + r = t) (hx : x = (dirP t).1) (hy : y = (dirP t).2) : DoneT r (q + 1) (upd X t x) (upd Y t y) := by
  intro s hs hc
  by_cases e : s = t
  · subst e; rw [upd_same, upd_same]; exact ⟨hx, hy⟩
  · rw [upd_other _ _ e, upd_other _ _ e]
    exact h s hs (by omega)
theorem DoneT.next {r : Nat} {X Y : Nat → Int} (h : DoneT r 4 X Y) : DoneT (r + 1) 0 X Y := fun s hs hc => h s hs (by omega)
theorem dir_rot {q r t : Nat} (hr : r < 1024) (ht : q * 1024 + r = t) : dirP t = rotP q (dirP r) := by
  unfold dirP
  have h1 : t / 1024 = q := by omega
  have h2 : t % 1024 = r := by omega
  have h3 : r / 1024 = 0 := by omega
  have h4 : r % 1024 = r := by omega
  rw [h1, h2, h3, h4]
  rfl
/-- What NewTable has at hand. -/
structure NI (w wx : World) (b po : Nat) (X Y : Nat → Int) : Prop where
  tb : TB wx b X Y
  one : VarI 130 wx po 18446744073709551616
  bel : Below b w wx
  sz : b ≤ wx.heap.size
  ne : b ≠ po
theorem NI.below {w wx wy : World} {b po : Nat} {X Y : Nat → Int} (h : NI w wx b po X Y) (hb : Below wx.heap.size wx wy) : NI w wy b po X Y :=
  ⟨h.tb.below hb, h.one.below hb, h.bel.trans (hb.mono h.sz), Nat.le_trans h.sz hb.size, h.ne⟩
theorem NI.drew {w wx : World} {b po : Nat} {X Y : Nat → Int} (h : NI w wx b po X Y) : NI w wx.drew b po X Y := h.below (Below.refl _ _).drew
theorem VarI.oneCell {N : Nat} {w : World} {p b j : Nat} {z v u : Int} (h : VarI N w p z) (hne : b ≠ p) (hc : w.cell? ⟨b, j, none⟩ = some (.int .i64 u)) : VarI N (w.setCell ⟨b, j, none⟩ (.int .i64 v)) p z := by
  obtain ⟨s, a, n, c, x0, x1, i⟩ := h
  refine ⟨s, a, n, c, ?_, ?_, i.setCell _ _ _ hc (by simp)⟩
  · rw [World.cell?_setCell_other _ _ _ _ (by simp <;> omega)]; exact x0
  · rw [World.cell?_setCell_other _ _ _ _ (by simp <;> omega)]; exact x1
theorem NI.set {w wx : World} {b po t : Nat} {X Y : Nat → Int} {x y : Int} (h : NI w wx b po X Y) (ht : t < 4096) : NI w ((wx.setCell ⟨b, t, none⟩ (.int .i64 x)).setCell ⟨b, 4096 + t, none⟩ (.int .i64 y)) b po (upd X t x) (upd Y t y) := by
  have t1 := (h.tb.setX (t := t) (v := x)).resolve_right (by omega)
  have t2 := (t1.setY (t := t) (v := y)).resolve_right (by omega)
  exact ⟨t2, (h.one.oneCell h.ne (h.tb.x t ht)).oneCell h.ne (t1.y t ht), (h.bel.setCell (Nat.le_refl _) _).setCell (Nat.le_refl _) _, by simpa using h.sz, h.ne⟩
/-- The model's tables as NewTable leaves them. -/
structure MTabs (w : World) (b : Nat) : Prop where
  x : ∀ s, s < 4096 → w.cell? ⟨b, s, none⟩ = some (.int .i64 (dirP s).1)
  y : ∀ s, s < 4096 → w.cell? ⟨b, 4096 + s, none⟩ = some (.int .i64 (dirP s).2)
theorem MTabs.below {w w' : World} {b : Nat} (h : MTabs w b) (hb : Below w.heap.size w w') : MTabs w' b := ⟨fun s hs => cellKeep hb (h.x s hs), fun s hs => cellKeep hb (h.y s hs)⟩
set_option maxRecDepth 100000 in
set_option maxHeartbeats 8000000 in
theorem newTable_any (w : World) :
    Calls Try.prog 13 #[] w fun e w' => e = .returned (.pointer (some ⟨w.heap.size, 0, none⟩)) ∧ MTabs w' w.heap.size ∧ Below w.heap.size w w' := by
  go_enter Try.func13, Try.ntmps13
  go_upto_region 2 with fail
  have HTB : Hid (TB (w.alloc (.cells Try.zeroCells79 79)) w.heap.size (fun _ => 0) (fun _ => 0)) := by
    refine hide ⟨fun i hi => ?_, fun i hi => ?_, fun j => by simp [go_sem]⟩
    · have := z68_at i (by omega); simp [go_sem, this]
    · have := z68_at (4096 + i) (by omega); simp [go_sem, this]
  have HB0 := hide (belA w (.cells Try.zeroCells79 79))
  have hlt : w.heap.size < (w.alloc (.cells Try.zeroCells79 79)).heap.size := by simp
  generalize w.alloc (.cells Try.zeroCells79 79) = w1 at *
  generalize hb : w.heap.size = b at *
  go_upto_region 3 with fail
  have HN : Hid (NI w ((w1.alloc (.cells #[.int .u32 0, .int .u32 0, .int .u32 1] 80)).alloc (.cells #[.bool false, .slice (some ⟨w1.heap.size, 0, none⟩) 3 3] 83)) b (w1.heap.size + 1) (fun _ => 0) (fun _ => 0)) :=
    ⟨(HTB.out.below (be1 w1 _)).below (be1 _ _), by have := one_var w1; simpa using this, ((HB0.out.alloc (by have := HB0.out.size; omega) _).alloc (by simp; have := HB0.out.size; omega) _).mono (by omega), by simp; omega, by omega⟩
  clear HTB HB0 hlt
  generalize (w1.alloc (.cells #[.int .u32 0, .int .u32 0, .int .u32 1] 80)).alloc (.cells #[.bool false, .slice (some ⟨w1.heap.size, 0, none⟩) 3 3] 83) = W at *
  generalize w1.heap.size + 1 = po at *
  generalize w1.heap.size = po1 at *
  go_wp2
  go_loopw [3, 4, 5, 6] (fun rv _ _ _ wr => ∃ (r : Nat) (X Y : Nat → Int), r ≤ 1024 ∧ rv = .int .i64 r ∧ DoneT r 0 X Y ∧ NI w wr b po X Y) (fun rv _ _ _ _ => 1024 - (intOf rv).toNat)
  case atStart => exact ⟨0, _, _, by omega, rfl, fun s hs hc => by omega, HN.out⟩
  case round =>
    clear HN
    obtain ⟨r, X, Y, hr, rfl, hdone, hni⟩ := hrel
    have HDn := hide hdone
    have HN := hide hni
    clear hdone hni
    by_cases hlt : r < 1024
    · obtain ⟨⟨S1, hS1, hS10, hS1v, hx1, hx0⟩, ⟨S2, hS2, hS20, hS2v, hy1, hy0⟩⟩ := ser_at r hlt
      have hang : 0 ≤ angP r := by unfold angP; omega
      have hA := fun w => hide (angle_any w r (by omega))
      obtain ⟨T, hT⟩ : ∃ T, angP r = T := ⟨_, rfl⟩
      rw [hT] at hS1 hS2 hang hA
      clear hT
      obtain ⟨xx, hxx⟩ : ∃ x, (dirP r).1 = x := ⟨_, rfl⟩
      obtain ⟨yy, hyy⟩ : ∃ x, (dirP r).2 = x := ⟨_, rfl⟩
      rw [hxx] at hS1v hx1 hx0
      rw [hyy] at hS2v hy1 hy0
      have HXY : Hid (dirP r = (xx, yy)) := hide (by rw [← hxx, ← hyy])
      have H1 := hide (And.intro hS1 hS1v)
      have H2 := hide (And.intro hS2 hS2v)
      clear hS1 hS1v hS2 hS2v hxx hyy
      go_wp2_with fail
      refine (hA _).out.mono ?_
      rintro e w4 ⟨s4, a4, n4, c4, rfl, i4, b4⟩
      have I4 := hide i4
      have HN4 := hide (HN.out.below b4)
      clear i4 b4 HN
      go_wp2_with fail
      refine (hA _).out.mono ?_
      rintro e w5 ⟨s5, a5, n5, c5, rfl, i5, b5⟩
      have I5 := hide i5
      have I4' := hide ((I4.out.below b5).mono (K := 130) (by omega))
      have HN5 := hide (HN4.out.below b5)
      clear i5 b5 HN4 I4
      go_wp2_with fail
      refine (series_any _ s4 s5 a4 a5 n4 c4 n5 c5 T T 2 S1 hang hang I4'.out I5.out (by omega) H1.out.1).mono ?_
      rintro e w6 ⟨s6, a6, n6, c6, rfl, i6, b6⟩
      have I6 := hide i6
      have HN6 := hide (HN5.out.below b6)
      clear i6 b6 HN5 I4' I5
      go_wp2_with fail
      refine (toTab_any _ s6 a6 n6 c6 S1 xx hS10 H1.out.2 hx0 hx1 I6.out).mono ?_
      rintro e w7 ⟨rfl, b7⟩
      have HN7 := hide (HN6.out.below b7)
      clear b7 HN6 I6 H1
      go_upto_region 7 with fail
      go_cut [5] (fun s wx => s = .int .i64 yy ∧ NI w wx b po X Y)
      case first =>
        obtain ⟨so, ao, no, co, o0, o1, io⟩ := HN7.out.drew.one
        have IO := hide io
        clear io
        go_region_law (first
          | (refine step_call rfl 41 #[.int .i64 r] ?_ (hA _).out ?_; (focus (simp [go_sem]; done)); rintro e w8 ⟨s8, a8, n8, c8, rfl, i8, b8⟩; refine ⟨_, rfl, ?_⟩; have I8 := hide i8; have HN8 := hide (HN7.out.drew.below b8); have IO8 := hide (IO.out.below b8); have y0 := cellKeep b8 o0; have y1 := cellKeep b8 o1; clear b8 i8)
          | (refine step_call rfl 40 #[.agg #[.bool so, .slice ao no co], .agg #[.bool s8, .slice a8 n8 c8], .int .u32 1] ?_ (series_any _ so s8 ao a8 no co n8 c8 18446744073709551616 T 1 S2 hang (by omega) IO8.out I8.out (by omega) H2.out.1) ?_; (focus (simp [go_sem]; done)); rintro e w9 ⟨s9, a9, n9, c9, rfl, i9, b9⟩; refine ⟨_, rfl, ?_⟩; have I9 := hide i9; have HN9 := hide (HN8.out.below b9); clear b9 i9)
          | (refine step_call rfl 39 #[.agg #[.bool s9, .slice a9 n9 c9]] ?_ (toTab_any _ s9 a9 n9 c9 S2 yy hS20 H2.out.2 hy0 hy1 I9.out) ?_; (focus (simp [go_sem]; done)); rintro e w10 ⟨rfl, b10⟩; refine ⟨_, rfl, ?_⟩; have HN10 := hide (HN9.out.below b10); clear b10))
        all_goals
          go_wp2_with fail
          go_meet
          case rel => exact ⟨rfl, HN10.out⟩
      obtain ⟨rfl, hn8⟩ := hcut
      have HN8 := hide hn8
      clear hn8 HN7 H2 hA
      go_wp2
      go_loopw [4, 5, 6] (fun xv yv qv wr => ∃ (q : Nat) (X Y : Nat → Int), q ≤ 4 ∧ xv = .int .i64 (rotP q (xx, yy)).1 ∧ yv = .int .i64 (rotP q (xx, yy)).2 ∧ qv = .int .i64 q ∧ DoneT r q X Y ∧ NI w wr b po X Y) (fun _ _ qv _ => 4 - (intOf qv).toNat)
      case atStart => exact ⟨0, X, Y, by omega, rfl, rfl, rfl, HDn.out, HN8.out⟩
      case round =>
        clear HN8 HDn
        obtain ⟨q, X, Y, hq, rfl, rfl, rfl, hdone, hni⟩ := hrel
        have HDn := hide hdone
        have HN := hide hni
        clear hdone hni
        by_cases hq4 : q < 4
        · obtain ⟨t, ht⟩ : ∃ t, q * 1024 + r = t := ⟨_, rfl⟩
          have ht4 : t < 4096 := by omega
          have hti : (q : Int) * 1024 + (r : Int) = (t : Int) := by omega
          have ht4' : (t : Int) < 4096 := by omega
          have hdr := dir_rot hlt ht
          rw [HXY.out] at hdr
          obtain ⟨bx1, bx2, by1, by2⟩ := dir_bnd t ht4
          have hsucc := rotP_succ q (xx, yy)
          have HST := hide (HDn.out.step (x := (dirP t).1) (y := (dirP t).2) ht rfl rfl)
          rw [hdr] at bx1 bx2 by1 by2 HST
          obtain ⟨u, hu⟩ : ∃ u, (rotP q (xx, yy)).1 = u := ⟨_, rfl⟩
          obtain ⟨v, hv⟩ : ∃ u, (rotP q (xx, yy)).2 = u := ⟨_, rfl⟩
          rw [hu, hv] at hsucc HST
          rw [hu] at bx1 bx2 ⊢
          rw [hv] at by1 by2 ⊢
          have HSU := hide hsucc
          have hcx := HN.out.tb.x t ht4
          have hcf := HN.out.tb.fr
          have hcy := ((HN.out.tb.setX (t := t) (v := u)).resolve_right (by omega)).y t ht4
          have hcf2 := ((HN.out.tb.setX (t := t) (v := u)).resolve_right (by omega)).fr
          have HN2 := hide (HN.out.set (x := u) (y := v) ht4)
          have huw : IntKind.i64.wrap (-u) = -u := by rw [IntKind.wrap_i64]; omega
          clear hsucc hu hv hdr HN HDn
          go_wp2
          go_roundw
          case rel => exact ⟨q + 1, _, _, by omega, by rw [HSU.out], by rw [HSU.out], by go_num, HST.out, HN2.out⟩
          case measure => simp [intOf]; omega
        · obtain rfl : q = 4 := by omega
          rw [show ((4 : Nat) : Int) = 4 from rfl]
          go_wp2
          go_roundw
          case rel => exact ⟨r + 1, X, Y, by omega, by go_num, HDn.out.next, HN.out⟩
          case measure => simp [intOf]; omega
    · obtain rfl : r = 1024 := by omega
      rw [show ((1024 : Nat) : Int) = 1024 from rfl]
      go_wp2
      go_ret
      refine ⟨by rw [hb]; rfl, ?_, by rw [hb]; exact HN.out.bel⟩
      rw [hb]
      refine ⟨fun s hs => ?_, fun s hs => ?_⟩
      · rw [HN.out.tb.x s hs, (HDn.out s hs (by omega)).1]
      · rw [HN.out.tb.y s hs, (HDn.out s hs (by omega)).2]

end Go.Proofs.Qxb6500777a.Nm
