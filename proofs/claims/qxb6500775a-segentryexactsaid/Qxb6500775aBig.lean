import Derived.Test.Qxb6500775aProg
import Derived.WalkKit
import Derived.WalkSpells
import Derived.WalkLawsBesides
import Derived.Handy
import Derived.Deep.OwnRows
import Derived.Deep.RegionHeld3
import Derived.BigQuiet
import Derived.Deep.DeepCutAuto
import Derived.Test.Qxb6500775aPlain
import Derived.Test.Qxb6500775aBits
namespace Go.Proofs.Qxb6500775a
open Go.RowKit

/-- The first n cells behind the address a hold the digits D. -/
def Mag (w : World) (a : Option Addr) (n : Nat) (D : Nat → Int) : Prop :=
  ∀ i, i < n → ∃ b off, a = some ⟨b, off, none⟩ ∧ w.cell? ⟨b, off + i, none⟩ = some (.int .u32 (D i)) ∧ 0 ≤ D i ∧ D i < 4294967296

set_option maxHeartbeats 400000 in
theorem trim_any (w : World) (a : Option Addr) (n cap : Nat) (D : Nat → Int) (hcap : n ≤ cap) (hn : n ≤ 1099511627776) (hm : Mag w a n D) :
    Calls Try.prog 45 #[.slice a n cap] w fun e w' => w' = w ∧ ∃ m, m ≤ n ∧ (∀ i, m ≤ i → i < n → D i = 0) ∧ (m = 0 ∨ D (m - 1) ≠ 0) ∧ 
      ∃ a' cap', e = .returned (.slice a' m cap') ∧ m ≤ cap' ∧ Mag w a' m D := by
  have H : Hid (Mag w a n D) := hm
  clear hm
  go_enter Try.func45, Try.ntmps45
  go_wp2
  go_loop [3] (fun i => ∃ k : Nat, k ≤ n ∧ i = .int .i64 k ∧ (∀ j, k ≤ j → j < n → D j = 0)) (fun i => (intOf i).toNat)
  case atStart => exact ⟨n, Nat.le_refl _, rfl, fun j h1 h2 => by omega⟩
  case round =>
    obtain ⟨k, hk, rfl, hz⟩ := hrel
    have HZ : Hid (∀ j, k ≤ j → j < n → D j = 0) := hz
    clear hz
    by_cases h0 : k = 0
    · subst h0
      go_wp2
      go_ret
      exact ⟨rfl, 0, Nat.zero_le _, HZ.out, Or.inl rfl, a, cap, rfl, Nat.zero_le _, fun i hi => by omega⟩
    · obtain ⟨b, off, rfl, hc, hd1, hd2⟩ := H.out (k-1) (by omega)
      go_wp2
      · have hz : (D (k - 1) == 0) = true := by assumption
        refine ⟨⟨k - 1, by omega, by go_num, ?_⟩, by simp [intOf]; omega⟩
        intro j h1 h2
        by_cases hj : j = k - 1
        · subst hj; simpa using hz
        · exact HZ.out j (by omega) h2
      · have hz : (D (k - 1) == 0) = false := by assumption
        go_ret
        exact ⟨rfl, k, hk, HZ.out, Or.inr (by simpa using hz), some ⟨b, off, none⟩, cap, rfl, by omega, fun i hi => H.out i (by omega)⟩

theorem Mag.below {w w' : World} {a : Option Addr} {n : Nat} {D : Nat → Int} (h : Mag w a n D) (hb : Below w.heap.size w w') : Mag w' a n D := by
  intro i hi
  obtain ⟨b, off, rfl, hc, hd⟩ := h i hi
  exact ⟨b, off, rfl, by rw [hb.cell (p := ⟨b, off + i, none⟩) (World.block_lt_of_cell? w _ hc)]; exact hc, hd⟩
theorem Mag.dig {w : World} {a : Option Addr} {n : Nat} {D : Nat → Int} (h : Mag w a n D) : Dig D n := fun i hi => by
  obtain ⟨b, off, rfl, hc, hd⟩ := h i hi
  exact hd

theorem Mag.setCell {w : World} {a : Option Addr} {n : Nat} {D : Nat → Int} (h : Mag w a n D) (p : Addr) (v u : Value) (hp : w.cell? p = some u) (hu : ∀ x, u ≠ .int .u32 x) : Mag (w.setCell p v) a n D := by
  intro i hi
  obtain ⟨b, off, rfl, hc, hd⟩ := h i hi
  refine ⟨b, off, rfl, ?_, hd⟩
  rw [World.cell?_setCell_other]
  · exact hc
  · rintro rfl
    rw [hc] at hp
    exact hu _ (Option.some.inj hp).symm
/-- The number that a sign and digits say. -/
def sg (neg : Bool) (x : Int) : Int := if neg then -x else x
/-- The value '.agg #[.bool neg, .slice a n cap]' is the number z, of at most N digits. -/
structure IsI (N : Nat) (w : World) (neg : Bool) (a : Option Addr) (n cap : Nat) (z : Int) : Prop where
  cap : n ≤ cap
  len : n ≤ N
  sign : n = 0 → neg = false
  digits : ∃ D, Mag w a n D ∧ (n = 0 ∨ D (n - 1) ≠ 0) ∧ z = sg neg (Sm D n)
theorem IsI.below {N : Nat} {w w' : World} {neg : Bool} {a : Option Addr} {n cap : Nat} {z : Int} (h : IsI N w neg a n cap z) (hb : Below w.heap.size w w') : IsI N w' neg a n cap z := by
  obtain ⟨D, h1, h2⟩ := h.digits
  exact ⟨h.cap, h.len, h.sign, D, h1.below hb, h2⟩

theorem IsI.setCell {N : Nat} {w : World} {neg : Bool} {a : Option Addr} {n cap : Nat} {z : Int} (h : IsI N w neg a n cap z) (p : Addr) (v u : Value) (hp : w.cell? p = some u) (hu : ∀ x, u ≠ .int .u32 x) : IsI N (w.setCell p v) neg a n cap z := by
  obtain ⟨D, h1, h2⟩ := h.digits
  exact ⟨h.cap, h.len, h.sign, D, h1.setCell p v u hp hu, h2⟩
/-- What the functions that return a number leave: a value that is z, and nothing old has turned. -/
def RetI (N : Nat) (w : World) (z : Int) (e : Ending) (w' : World) : Prop :=
  ∃ neg a n cap, e = .returned (.agg #[.bool neg, .slice a n cap]) ∧ IsI N w' neg a n cap z ∧ Below w.heap.size w w'
theorem RetI.mk {N : Nat} {w w' : World} {z : Int} {e : Ending} (neg : Bool) (a : Option Addr) (n cap : Nat) (he : e = .returned (.agg #[.bool neg, .slice a n cap])) (hi : IsI N w' neg a n cap z) (hb : Below w.heap.size w w') : RetI N w z e w' :=
  ⟨neg, a, n, cap, he, hi, hb⟩
theorem bcell {W w1 : World} (hb : Below W.heap.size W w1) : (∀ b o, b < W.heap.size → w1.cell? ⟨b, o, none⟩ = W.cell? ⟨b, o, none⟩) ∧ (∀ b o, b < W.heap.size → w1.frozen? ⟨b, o, none⟩ = W.frozen? ⟨b, o, none⟩) :=
  ⟨fun b o h => hb.cell (p := ⟨b, o, none⟩) h, fun b o h => hb.frozen (p := ⟨b, o, none⟩) h⟩
theorem ret_int {k : IntKind} {a b : Int} (h : a = b) : Ending.returned (.int k a) = .returned (.int k b) := by rw [h]
theorem sg_zero (neg : Bool) : sg neg 0 = 0 := by cases neg <;> rfl
/-- fixmathm.make1: a sign and digits without a zero at the top. -/
theorem make1_any (w : World) (neg : Bool) (a : Option Addr) (n cap : Nat) (D : Nat → Int) (N : Nat) (hN : n ≤ N) (hcap : n ≤ cap) (hm : Mag w a n D) (ht : n = 0 ∨ D (n - 1) ≠ 0) :
    Calls Try.prog 44 #[.bool neg, .slice a n cap] w (RetI N w (sg neg (Sm D n))) := by
  have H : Hid (Mag w a n D ∧ (n = 0 ∨ D (n - 1) ≠ 0)) := ⟨hm, ht⟩
  clear hm ht
  go_enter Try.func44, Try.ntmps44
  by_cases h : n = 0
  · subst h
    go_wp2
    refine bodyPost_ret (v := .agg #[.bool false, .slice none 0 0]) (by simp [results, Try.results44, go_sem]) rfl (RetI.mk false none 0 0 rfl ⟨Nat.le_refl _, Nat.zero_le _, fun _ => rfl, D, fun i hi => by omega, Or.inl rfl, ?_⟩ ((Below.refl _ _).alloc (Nat.le_refl _) _))
    rw [show Sm D 0 = 0 from rfl, sg_zero, sg_zero]
  · go_wp2
    refine bodyPost_ret (v := .agg #[.bool neg, .slice a n cap]) (by simp [results, Try.results44, go_sem]) rfl (RetI.mk neg a n cap rfl ⟨hcap, hN, fun h' => absurd h' h, D, ?_, H.out.2, rfl⟩ ((Below.refl _ _).alloc (Nat.le_refl _) _))
    exact H.out.1.below ((Below.refl _ _).alloc (Nat.le_refl _) _)

/-- fixmathm.Sign. -/
def sgn (z : Int) : Int := if z = 0 then 0 else if z < 0 then -1 else 1
theorem IsI.zero_iff {N : Nat} {w : World} {neg : Bool} {a : Option Addr} {n cap : Nat} {z : Int} (h : IsI N w neg a n cap z) : z = 0 ↔ n = 0 := by
  obtain ⟨D, h1, h2, h3⟩ := h.digits
  constructor
  · intro hz
    rcases h2 with h2 | h2
    · exact h2
    · by_cases hn : n = 0
      · exact hn
      · obtain ⟨k, rfl⟩ : ∃ k, n = k + 1 := ⟨n - 1, by omega⟩
        have := Sm_top h1.dig (by simpa using h2)
        have := Bpow_pos k
        rw [hz] at h3
        cases neg <;> simp [sg] at h3 <;> omega
  · intro hn
    subst hn
    rw [h3, show Sm D 0 = 0 from rfl, sg_zero]
theorem IsI.neg_iff {N : Nat} {w : World} {neg : Bool} {a : Option Addr} {n cap : Nat} {z : Int} (h : IsI N w neg a n cap z) (hn : n ≠ 0) : z < 0 ↔ neg = true := by
  have hz := h.zero_iff
  obtain ⟨D, h1, h2, h3⟩ := h.digits
  have := Sm_nonneg h1.dig
  cases neg <;> simp [sg] at h3 <;> simp <;> omega
theorem Sign_any (w : World) (neg : Bool) (a : Option Addr) (n cap N : Nat) (z : Int) (hi : IsI N w neg a n cap z) :
    Calls Try.prog 21 #[.agg #[.bool neg, .slice a n cap]] w fun e w' => e = .returned (.int .i64 (sgn z)) ∧ Below w.heap.size w w' := by
  have H : Hid (IsI N w neg a n cap z) := hi
  clear hi
  by_cases h : n = 0
  · subst h
    go_enter Try.func21, Try.ntmps21
    go_wp2
    go_ret
    exact ⟨ret_int <| by rw [sgn, if_pos (H.out.zero_iff.2 rfl)], (Below.refl _ _).alloc (Nat.le_refl _) _⟩
  · have hz : z ≠ 0 := fun h' => h (H.out.zero_iff.1 h')
    have hs := H.out.neg_iff h
    have HZ : Hid (z ≠ 0 ∧ (z < 0 ↔ neg = true)) := ⟨hz, hs⟩
    clear hz hs
    go_enter Try.func21, Try.ntmps21
    cases neg
    · go_wp2
      go_ret
      exact ⟨ret_int <| by rw [sgn, if_neg HZ.out.1, if_neg (by simpa using HZ.out.2)], (Below.refl _ _).alloc (Nat.le_refl _) _⟩
    · go_wp2
      go_ret
      exact ⟨ret_int <| by rw [sgn, if_neg HZ.out.1, if_pos (by simpa using HZ.out.2)], (Below.refl _ _).alloc (Nat.le_refl _) _⟩

/-- The end of a function that returns a number: it is stored into the result's variable, block rb. -/
theorem fin_I {w W w1 : World} {N : Nat} {z : Int} {neg : Bool} {a : Option Addr} {n cap rb : Nat} (hI : IsI N w1 neg a n cap z) (hb : Below W.heap.size W w1) (hW : Below w.heap.size w W) (hr : w.heap.size ≤ rb) (hrb : rb < W.heap.size)
    (hc0 : W.cell? ⟨rb, 0, none⟩ = some (.bool false)) (hc1 : W.cell? ⟨rb, 1, none⟩ = some (.slice none 0 0)) :
    RetI N w z (.returned (.agg #[.bool neg, .slice a n cap])) ((w1.setCell ⟨rb, 0, none⟩ (.bool neg)).setCell ⟨rb, 1, none⟩ (.slice a n cap)) := by
  have e0 : w1.cell? ⟨rb, 0, none⟩ = some (.bool false) := by rw [hb.cell (p := ⟨rb, 0, none⟩) hrb]; exact hc0
  have e1 : w1.cell? ⟨rb, 1, none⟩ = some (.slice none 0 0) := by rw [hb.cell (p := ⟨rb, 1, none⟩) hrb]; exact hc1
  refine RetI.mk neg a n cap rfl ((hI.setCell _ _ _ e0 (by simp)).setCell _ _ (.slice none 0 0) ?_ (by simp)) ?_
  · rw [World.cell?_setCell_other]; exact e1; simp
  · exact ((hW.trans (hb.mono hW.size)).setCell hr _).setCell hr _
theorem box2 {W w1 : World} {rb : Nat} (v0 v1 : Value) (hb : Below W.heap.size W w1) (hrb : rb < W.heap.size) (c0 : W.cell? ⟨rb, 0, none⟩ = some v0) (c1 : W.cell? ⟨rb, 1, none⟩ = some v1) (f0 : W.frozen? ⟨rb, 0, none⟩ = false) (f1 : W.frozen? ⟨rb, 1, none⟩ = false) :
    w1.cell? ⟨rb, 0, none⟩ = some v0 ∧ w1.cell? ⟨rb, 1, none⟩ = some v1 ∧ w1.frozen? ⟨rb, 0, none⟩ = false ∧ w1.frozen? ⟨rb, 1, none⟩ = false :=
  ⟨(hb.cell (p := ⟨rb, 0, none⟩) hrb).trans c0, (hb.cell (p := ⟨rb, 1, none⟩) hrb).trans c1, (hb.frozen (p := ⟨rb, 0, none⟩) hrb).trans f0, (hb.frozen (p := ⟨rb, 1, none⟩) hrb).trans f1⟩
/-- fixmathm.Neg. -/
theorem sg_not (neg : Bool) (x : Int) : sg (!neg) x = - sg neg x := by cases neg <;> simp [sg]
theorem Neg_any (w : World) (neg : Bool) (a : Option Addr) (n cap N : Nat) (z : Int) (hi : IsI N w neg a n cap z) :
    Calls Try.prog 51 #[.agg #[.bool neg, .slice a n cap]] w (RetI N w (-z)) := by
  obtain ⟨D, h1, h2, h3⟩ := hi.digits
  have hN := hi.len
  have hC := hi.cap
  have hz : -z = sg (!neg) (Sm D n) := by rw [sg_not, h3]
  have H : Hid (Mag w a n D ∧ (n = 0 ∨ D (n - 1) ≠ 0)) := ⟨h1, h2⟩
  have HZ : Hid (-z = sg (!neg) (Sm D n)) := hz
  clear hi h1 h2 h3 hz
  go_enter Try.func51, Try.ntmps51
  go_wp2_with fail
  refine (make1_any _ (!neg) a n cap D N hN hC (H.out.1.below (((Below.refl _ _).alloc (Nat.le_refl _) _).alloc (by simp) _)) H.out.2).mono ?_
  rintro e w1 ⟨neg', a', n', cap', rfl, hi, hb⟩
  have hz : w.heap.size + 1 < w1.heap.size := by have := hb.size; simp at this; omega
  obtain ⟨hc, hf⟩ := bcell hb
  have HI : Hid (IsI N w1 neg' a' n' cap' (sg (!neg) (Sm D n))) := hi
  have HB : Hid (Below _ _ _) := hb
  clear hi hb
  go_wp2
  refine bodyPost_ret (v := .agg #[.bool neg', .slice a' n' cap']) (by simp [results, Try.results51, go_sem, hc]) rfl ?_
  rw [HZ.out]
  exact fin_I HI.out HB.out (((Below.refl _ _).alloc (Nat.le_refl _) _).alloc (by simp) _) (by simp) (by simp <;> omega) (by simp) (by simp)

/-- fixmathm.Of. -/
theorem Of_u (z : Int) (h1 : -9223372036854775808 ≤ z) (h : z < 0) : IntKind.u64.wrap (bits BinOp.xor IntKind.u64 IntKind.u64.max (IntKind.u64.wrap z) + 1) = -z := by
  have e : IntKind.u64.wrap z = z + 18446744073709551616 := by rw [IntKind.wrap_u64]; omega
  rw [e, xor_max _ (by omega) (by omega), IntKind.wrap_u64]
  omega
def D2 (u : Int) : Nat → Int := fun i => if i = 0 then u % 4294967296 else u / 4294967296
theorem Sm_D2 (u : Int) : Sm (D2 u) 2 = u := by
  simp only [Sm, D2]
  simp
  omega
theorem mag_D2 (w : World) (o : Obj) (u : Int) (h0 : 0 ≤ u) (h1 : u < 18446744073709551616) : Mag ((w.alloc o).alloc (.cells #[.int .u32 (u % 4294967296), .int .u32 (u / 4294967296)] 73)) (some ⟨w.heap.size + 1, 0, none⟩) 2 (D2 u) := by
  intro i hi
  match i, hi with
  | 0, _ => exact ⟨w.heap.size + 1, 0, rfl, by simp [D2], by simp [D2]; omega, by simp [D2]; omega⟩
  | 1, _ => exact ⟨w.heap.size + 1, 0, rfl, by simp [D2], by simp [D2]; omega, by simp [D2]; omega⟩
theorem mag_trim {D : Nat → Int} {m n : Nat} (h : m ≤ n) (hz : ∀ i, m ≤ i → i < n → D i = 0) : Sm D m = Sm D n := (Sm_trim h hz).symm

theorem Of_any (w : World) (z : Int) (h1 : -9223372036854775808 ≤ z) (h2 : z < 9223372036854775808) :
    Calls Try.prog 15 #[.int .i64 z] w (RetI 2 w z) := by
  by_cases h : z < 0
  · have hu := Of_u z h1 h
    have hm := and_mask32 (-z) (by omega) (by omega)
    have e1 : -z % 4294967296 % 4294967296 = -z % 4294967296 := by omega
    have e2 : -z / 4294967296 % 4294967296 = -z / 4294967296 := by omega
    have HU : Hid (IntKind.u64.wrap (bits BinOp.xor IntKind.u64 IntKind.u64.max (IntKind.u64.wrap z) + 1) = -z ∧ bits BinOp.and .u64 (-z) 4294967295 = -z % 4294967296 ∧ -z % 4294967296 % 4294967296 = -z % 4294967296 ∧ -z / 4294967296 % 4294967296 = -z / 4294967296) := ⟨hu, hm, e1, e2⟩
    clear hu hm e1 e2
    go_enter Try.func15, Try.ntmps15
    go_wp2_with fail
    rw [HU.out.1, HU.out.2.1, HU.out.2.2.1, HU.out.2.2.2]
    refine (trim_any _ _ 2 2 (D2 (-z)) (by omega) (by omega) (mag_D2 _ _ _ (by omega) (by omega))).mono ?_
    rintro e w1 ⟨rfl, m, hm, hz, ht, a', cap', rfl, hcap', hmag⟩
    have HM : Hid (Mag _ _ _ _) := hmag
    have HT : Hid (m = 0 ∨ D2 (-z) (m - 1) ≠ 0) := ht
    have HS : Hid (sg true (Sm (D2 (-z)) m) = z) := by
      have := mag_trim hm hz
      rw [Sm_D2] at this
      show -(Sm _ _) = z
      omega
    clear hmag ht hz
    go_wp2_with fail
    refine (make1_any _ true a' m cap' (D2 (-z)) 2 hm hcap' HM.out HT.out).mono ?_
    rintro e w1 ⟨neg', a2, n2, cap2, rfl, hi, hb⟩
    have hz : w.heap.size + 1 < w1.heap.size := by have := hb.size; simp at this; omega
    obtain ⟨c0, c1, f0, f1⟩ := box2 (rb := w.heap.size) (.bool false) (.slice none 0 0) hb (by simp; omega) (by simp [go_sem]) (by simp [go_sem]) (by simp [go_sem]) (by simp [go_sem])
    rw [HS.out] at hi
    have HI : Hid (IsI 2 w1 neg' a2 n2 cap2 z) := hi
    have HB : Hid (Below _ _ _) := hb
    clear hi hb
    go_wp2
    refine bodyPost_ret (v := .agg #[.bool neg', .slice a2 n2 cap2]) (by simp [results, Try.results15, go_sem, c0, c1]) rfl ?_
    exact fin_I HI.out HB.out (((Below.refl _ _).alloc (Nat.le_refl _) _).alloc (by simp) _) (by simp) (by simp <;> omega) (by simp) (by simp)
  · have hm := and_mask32 z (by omega) (by omega)
    have e1 : z % 4294967296 % 4294967296 = z % 4294967296 := by omega
    have HU : Hid (bits BinOp.and .u64 z 4294967295 = z % 4294967296 ∧ z % 4294967296 % 4294967296 = z % 4294967296) := ⟨hm, e1⟩
    clear hm e1
    go_enter Try.func15, Try.ntmps15
    go_wp2_with fail
    rw [HU.out.1, HU.out.2]
    refine (trim_any _ _ 2 2 (D2 z) (by omega) (by omega) (mag_D2 _ _ _ (by omega) (by omega))).mono ?_
    rintro e w1 ⟨rfl, m, hm, hz, ht, a', cap', rfl, hcap', hmag⟩
    have HM : Hid (Mag _ _ _ _) := hmag
    have HT : Hid (m = 0 ∨ D2 z (m - 1) ≠ 0) := ht
    have HS : Hid (sg false (Sm (D2 z) m) = z) := by
      have := mag_trim hm hz
      rw [Sm_D2] at this
      show Sm _ _ = z
      omega
    clear hmag ht hz
    go_wp2_with fail
    refine (make1_any _ false a' m cap' (D2 z) 2 hm hcap' HM.out HT.out).mono ?_
    rintro e w1 ⟨neg', a2, n2, cap2, rfl, hi, hb⟩
    have hz : w.heap.size + 1 < w1.heap.size := by have := hb.size; simp at this; omega
    obtain ⟨c0, c1, f0, f1⟩ := box2 (rb := w.heap.size) (.bool false) (.slice none 0 0) hb (by simp; omega) (by simp [go_sem]) (by simp [go_sem]) (by simp [go_sem]) (by simp [go_sem])
    rw [HS.out] at hi
    have HI : Hid (IsI 2 w1 neg' a2 n2 cap2 z) := hi
    have HB : Hid (Below _ _ _) := hb
    clear hi hb
    go_wp2
    refine bodyPost_ret (v := .agg #[.bool neg', .slice a2 n2 cap2]) (by simp [results, Try.results15, go_sem, c0, c1]) rfl ?_
    exact fin_I HI.out HB.out (((Below.refl _ _).alloc (Nat.le_refl _) _).alloc (by simp) _) (by simp) (by simp <;> omega) (by simp) (by simp)
end Go.Proofs.Qxb6500775a
