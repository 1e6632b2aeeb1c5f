import Derived.Test.Qxb6500776aLeaf
import Derived.Test.Qxb6500776aPlain
import Derived.Test.Qxb6500776aBits
import Derived.Deep.QuietTactic
namespace Go.Proofs.Qxb6500776a
open Go.RowKit

/-- The first n cells behind the address a hold the digits D. -/
def Mag (w : World) (a : Option Addr) (n : Nat) (D : Nat → Int) : Prop :=
  ∀ i, i < n → ∃ b off, a = some ⟨b, off, none⟩ ∧ w.cell? ⟨b, off + i, none⟩ = some (.int .u32 (D i)) ∧ 0 ≤ D i ∧ D i < 4294967296

set_option maxHeartbeats 400000 in
theorem trim_any (w : World) (a : Option Addr) (n cap : Nat) (D : Nat → Int) (hcap : n ≤ cap) (hn : n ≤ 1099511627776) (hm : Mag w a n D) :
    Calls Try.prog 66 #[.slice a n cap] w fun e w' => w' = w ∧ ∃ m, m ≤ n ∧ (∀ i, m ≤ i → i < n → D i = 0) ∧ (m = 0 ∨ D (m - 1) ≠ 0) ∧ 
      ∃ a' cap', e = .returned (.slice a' m cap') ∧ m ≤ cap' ∧ Mag w a' m D := by
  have H : Hid (Mag w a n D) := hm
  clear hm
  go_enter Try.func66, Try.ntmps66
  go_wp2
  go_loop [3] (fun i => ∃ k : Nat, k ≤ n ∧ i = .int .i64 k ∧ (∀ j, k ≤ j → j < n → D j = 0)) (fun i => (intOf i).toNat)
  case atStart => exact ⟨n, Nat.le_refl _, rfl, fun j h1 h2 => by omega⟩
  case round =>
    obtain ⟨k, hk, rfl, hz⟩ := hrel
    have HZ : Hid (∀ j, k ≤ j → j < n → D j = 0) := hz
    clear hz
    by_cases h0 : k = 0
    · subst h0
      go_wp2
      go_ret
      exact ⟨rfl, 0, Nat.zero_le _, HZ.out, Or.inl rfl, a, cap, rfl, Nat.zero_le _, fun i hi => by omega⟩
    · obtain ⟨b, off, rfl, hc, hd1, hd2⟩ := H.out (k-1) (by omega)
      go_wp2
      · have hz : (D (k - 1) == 0) = true := by assumption
        refine ⟨⟨k - 1, by omega, by go_num, ?_⟩, by simp [intOf]; omega⟩
        intro j h1 h2
        by_cases hj : j = k - 1
        · subst hj; simpa using hz
        · exact HZ.out j (by omega) h2
      · have hz : (D (k - 1) == 0) = false := by assumption
        go_ret
        exact ⟨rfl, k, hk, HZ.out, Or.inr (by simpa using hz), some ⟨b, off, none⟩, cap, rfl, by omega, fun i hi => H.out i (by omega)⟩

theorem Mag.below {w w' : World} {a : Option Addr} {n : Nat} {D : Nat → Int} (h : Mag w a n D) (hb : Below w.heap.size w w') : Mag w' a n D := by
  intro i hi
  obtain ⟨b, off, rfl, hc, hd⟩ := h i hi
  exact ⟨b, off, rfl, by rw [hb.cell (p := ⟨b, off + i, none⟩) (World.block_lt_of_cell? w _ hc)]; exact hc, hd⟩
theorem Mag.dig {w : World} {a : Option Addr} {n : Nat} {D : Nat → Int} (h : Mag w a n D) : Dig D n := fun i hi => by
  obtain ⟨b, off, rfl, hc, hd⟩ := h i hi
  exact hd

theorem Mag.setCell {w : World} {a : Option Addr} {n : Nat} {D : Nat → Int} (h : Mag w a n D) (p : Addr) (v u : Value) (hp : w.cell? p = some u) (hu : ∀ x, u ≠ .int .u32 x) : Mag (w.setCell p v) a n D := by
  intro i hi
  obtain ⟨b, off, rfl, hc, hd⟩ := h i hi
  refine ⟨b, off, rfl, ?_, hd⟩
  rw [World.cell?_setCell_other]
  · exact hc
  · rintro rfl
    rw [hc] at hp
    exact hu _ (Option.some.inj hp).symm
/-- The number that a sign and digits say. -/
def sg (neg : Bool) (x : Int) : Int := if neg then -x else x
/-- The value '.agg #[.bool neg, .slice a n cap]' is the number z, of at most N digits. -/
structure IsI (N : Nat) (w : World) (neg : Bool) (a : Option Addr) (n cap : Nat) (z : Int) : Prop where
  cap : n ≤ cap
  len : n ≤ N
  sign : n = 0 → neg = false
  digits : ∃ D, Mag w a n D ∧ (n = 0 ∨ D (n - 1) ≠ 0) ∧ z = sg neg (Sm D n)
theorem IsI.below {N : Nat} {w w' : World} {neg : Bool} {a : Option Addr} {n cap : Nat} {z : Int} (h : IsI N w neg a n cap z) (hb : Below w.heap.size w w') : IsI N w' neg a n cap z := by
  obtain ⟨D, h1, h2⟩ := h.digits
  exact ⟨h.cap, h.len, h.sign, D, h1.below hb, h2⟩

theorem IsI.setCell {N : Nat} {w : World} {neg : Bool} {a : Option Addr} {n cap : Nat} {z : Int} (h : IsI N w neg a n cap z) (p : Addr) (v u : Value) (hp : w.cell? p = some u) (hu : ∀ x, u ≠ .int .u32 x) : IsI N (w.setCell p v) neg a n cap z := by
  obtain ⟨D, h1, h2⟩ := h.digits
  exact ⟨h.cap, h.len, h.sign, D, h1.setCell p v u hp hu, h2⟩
/-- What the functions that return a number leave: a value that is z, and nothing old has turned. -/
def RetI (N : Nat) (w : World) (z : Int) (e : Ending) (w' : World) : Prop :=
  ∃ neg a n cap, e = .returned (.agg #[.bool neg, .slice a n cap]) ∧ IsI N w' neg a n cap z ∧ Below w.heap.size w w'
theorem RetI.mk {N : Nat} {w w' : World} {z : Int} {e : Ending} (neg : Bool) (a : Option Addr) (n cap : Nat) (he : e = .returned (.agg #[.bool neg, .slice a n cap])) (hi : IsI N w' neg a n cap z) (hb : Below w.heap.size w w') : RetI N w z e w' :=
  ⟨neg, a, n, cap, he, hi, hb⟩
theorem bcell {W w1 : World} (hb : Below W.heap.size W w1) : (∀ b o, b < W.heap.size → w1.cell? ⟨b, o, none⟩ = W.cell? ⟨b, o, none⟩) ∧ (∀ b o, b < W.heap.size → w1.frozen? ⟨b, o, none⟩ = W.frozen? ⟨b, o, none⟩) :=
  ⟨fun b o h => hb.cell (p := ⟨b, o, none⟩) h, fun b o h => hb.frozen (p := ⟨b, o, none⟩) h⟩
theorem sg_zero (neg : Bool) : sg neg 0 = 0 := by cases neg <;> rfl
/-- fixmathm.Sign. -/
def sgn (z : Int) : Int := if z = 0 then 0 else if z < 0 then -1 else 1
theorem IsI.zero_iff {N : Nat} {w : World} {neg : Bool} {a : Option Addr} {n cap : Nat} {z : Int} (h : IsI N w neg a n cap z) : z = 0 ↔ n = 0 := by
  obtain ⟨D, h1, h2, h3⟩ := h.digits
  constructor
  · intro hz
    rcases h2 with h2 | h2
    · exact h2
    · by_cases hn : n = 0
      · exact hn
      · obtain ⟨k, rfl⟩ : ∃ k, n = k + 1 := ⟨n - 1, by omega⟩
        have := Sm_top h1.dig (by simpa using h2)
        have := Bpow_pos k
        rw [hz] at h3
        cases neg <;> simp [sg] at h3 <;> omega
  · intro hn
    subst hn
    rw [h3, show Sm D 0 = 0 from rfl, sg_zero]
theorem IsI.neg_iff {N : Nat} {w : World} {neg : Bool} {a : Option Addr} {n cap : Nat} {z : Int} (h : IsI N w neg a n cap z) (hn : n ≠ 0) : z < 0 ↔ neg = true := by
  have hz := h.zero_iff
  obtain ⟨D, h1, h2, h3⟩ := h.digits
  have := Sm_nonneg h1.dig
  cases neg <;> simp [sg] at h3 <;> simp <;> omega
/-- The end of a function that returns a number: it is stored into the result's variable, block rb. -/
theorem fin_I {w W w1 : World} {N : Nat} {z : Int} {neg : Bool} {a : Option Addr} {n cap rb : Nat} (hI : IsI N w1 neg a n cap z) (hb : Below W.heap.size W w1) (hW : Below w.heap.size w W) (hr : w.heap.size ≤ rb) (hrb : rb < W.heap.size)
    (hc0 : W.cell? ⟨rb, 0, none⟩ = some (.bool false)) (hc1 : W.cell? ⟨rb, 1, none⟩ = some (.slice none 0 0)) :
    RetI N w z (.returned (.agg #[.bool neg, .slice a n cap])) ((w1.setCell ⟨rb, 0, none⟩ (.bool neg)).setCell ⟨rb, 1, none⟩ (.slice a n cap)) := by
  have e0 : w1.cell? ⟨rb, 0, none⟩ = some (.bool false) := by rw [hb.cell (p := ⟨rb, 0, none⟩) hrb]; exact hc0
  have e1 : w1.cell? ⟨rb, 1, none⟩ = some (.slice none 0 0) := by rw [hb.cell (p := ⟨rb, 1, none⟩) hrb]; exact hc1
  refine RetI.mk neg a n cap rfl ((hI.setCell _ _ _ e0 (by simp)).setCell _ _ (.slice none 0 0) ?_ (by simp)) ?_
  · rw [World.cell?_setCell_other]; exact e1; simp
  · exact ((hW.trans (hb.mono hW.size)).setCell hr _).setCell hr _
theorem box2 {W w1 : World} {rb : Nat} (v0 v1 : Value) (hb : Below W.heap.size W w1) (hrb : rb < W.heap.size) (c0 : W.cell? ⟨rb, 0, none⟩ = some v0) (c1 : W.cell? ⟨rb, 1, none⟩ = some v1) (f0 : W.frozen? ⟨rb, 0, none⟩ = false) (f1 : W.frozen? ⟨rb, 1, none⟩ = false) :
    w1.cell? ⟨rb, 0, none⟩ = some v0 ∧ w1.cell? ⟨rb, 1, none⟩ = some v1 ∧ w1.frozen? ⟨rb, 0, none⟩ = false ∧ w1.frozen? ⟨rb, 1, none⟩ = false :=
  ⟨(hb.cell (p := ⟨rb, 0, none⟩) hrb).trans c0, (hb.cell (p := ⟨rb, 1, none⟩) hrb).trans c1, (hb.frozen (p := ⟨rb, 0, none⟩) hrb).trans f0, (hb.frozen (p := ⟨rb, 1, none⟩) hrb).trans f1⟩
/-- fixmathm.Of. -/
theorem Of_u (z : Int) (h1 : -9223372036854775808 ≤ z) (h : z < 0) : IntKind.u64.wrap (bits BinOp.xor IntKind.u64 IntKind.u64.max (IntKind.u64.wrap z) + 1) = -z := by
  have e : IntKind.u64.wrap z = z + 18446744073709551616 := by rw [IntKind.wrap_u64]; omega
  rw [e, xor_max _ (by omega) (by omega), IntKind.wrap_u64]
  omega
def D2 (u : Int) : Nat → Int := fun i => if i = 0 then u % 4294967296 else u / 4294967296
theorem Sm_D2 (u : Int) : Sm (D2 u) 2 = u := by
  simp only [Sm, D2]
  simp
  omega
theorem mag_D2 (w : World) (o : Obj) (u : Int) (h0 : 0 ≤ u) (h1 : u < 18446744073709551616) : Mag ((w.alloc o).alloc (.cells #[.int .u32 (u % 4294967296), .int .u32 (u / 4294967296)] 106)) (some ⟨w.heap.size + 1, 0, none⟩) 2 (D2 u) := by
  intro i hi
  match i, hi with
  | 0, _ => exact ⟨w.heap.size + 1, 0, rfl, by simp [D2], by simp [D2]; omega, by simp [D2]; omega⟩
  | 1, _ => exact ⟨w.heap.size + 1, 0, rfl, by simp [D2], by simp [D2]; omega, by simp [D2]; omega⟩
theorem mag_trim {D : Nat → Int} {m n : Nat} (h : m ≤ n) (hz : ∀ i, m ≤ i → i < n → D i = 0) : Sm D m = Sm D n := (Sm_trim h hz).symm
/-- -1, 0 or 1 as x is less than, equal to or greater than y. -/
def cmp3 (x y : Int) : Int := if x < y then -1 else if y < x then 1 else 0
theorem below_drewN (w : World) (k B : Nat) : Below B w (w.drewN k) := by
  induction k with
  | zero => exact Below.refl _ _
  | succ k ih => exact ih.drew

set_option maxHeartbeats 400000 in
theorem cmpMag_any (w : World) (a b : Option Addr) (n m ca cb : Nat) (D E : Nat → Int) (hn : n ≤ 1099511627776) (hm : m ≤ 1099511627776) (ha : Mag w a n D) (hb : Mag w b m E) (hta : n = 0 ∨ D (n - 1) ≠ 0) (htb : m = 0 ∨ E (m - 1) ≠ 0) :
    Calls Try.prog 64 #[.slice a n ca, .slice b m cb] w fun e w' => e = .returned (.int .i64 (cmp3 (Sm D n) (Sm E m))) ∧ ∃ k, w' = w.drewN k := by
  have HA : Hid (Mag w a n D ∧ (n = 0 ∨ D (n - 1) ≠ 0)) := ⟨ha, hta⟩
  have HB : Hid (Mag w b m E ∧ (m = 0 ∨ E (m - 1) ≠ 0)) := ⟨hb, htb⟩
  clear ha hb hta htb
  rcases (by omega : n < m ∨ m < n ∨ n = m) with h | h | h
  · go_enter Try.func64, Try.ntmps64
    go_wp2
    go_ret
    refine ⟨ret_int ?_, 0, rfl⟩
    have := Sm_lt_len HA.out.1.dig HB.out.1.dig h (HB.out.2.resolve_left (by omega))
    rw [cmp3, if_pos this]
  · go_enter Try.func64, Try.ntmps64
    go_wp2
    go_ret
    refine ⟨ret_int ?_, 0, rfl⟩
    have := Sm_lt_len HB.out.1.dig HA.out.1.dig h (HA.out.2.resolve_left (by omega))
    rw [cmp3, if_neg (by omega), if_pos this]
  · subst h
    go_enter Try.func64, Try.ntmps64
    go_wp2
    go_loopw [5] (fun i wr => ∃ k : Nat, ∃ nd, k ≤ n ∧ wr = w.drewN nd ∧ i = .int .i64 ((k : Int) - 1) ∧ (∀ j, k ≤ j → j < n → D j = E j)) (fun i _ => (intOf i + 1).toNat)
    case atStart => exact ⟨n, 0, Nat.le_refl _, rfl, rfl, fun j h1 h2 => by omega⟩
    case round =>
      obtain ⟨k, nd, hk, rfl, rfl, he⟩ := hrel
      have HE : Hid (∀ j, k ≤ j → j < n → D j = E j) := he
      clear he
      by_cases h0 : k = 0
      · subst h0
        go_wp2
        go_ret
        refine ⟨ret_int ?_, nd, rfl⟩
        have : Sm D n = Sm E n := Sm_congr (fun i hi => HE.out i (by omega) hi)
        rw [this, cmp3, if_neg (by omega), if_neg (by omega)]
      · obtain ⟨ba, oa, rfl, hca, hda⟩ := HA.out.1 (k-1) (by omega)
        obtain ⟨bb, ob, rfl, hcb, hdb⟩ := HB.out.1 (k-1) (by omega)
        have i1 : (0 : Int) ≤ (k : Int) - 1 := by omega
        have i2 : (k : Int) - 1 < (n : Int) := by omega
        by_cases hde : D (k - 1) = E (k - 1)
        · have HD : Hid (D (k - 1) = E (k - 1)) := hde
          have hne : (D (k - 1) != E (k - 1)) = false := by simp [hde]
          clear hde
          go_wp2
          go_quiet (fail)
          go_wp2
          go_roundw
          case rel =>
            refine ⟨k - 1, nd + nq, by omega, rfl, by go_num, ?_⟩
            intro j h1 h2
            by_cases hj : j = k - 1
            · rw [hj]; exact HD.out
            · exact HE.out j (by omega) h2
          case measure => simp [intOf]; omega
        · have hne : (D (k - 1) != E (k - 1)) = true := by simp [hde]
          rcases (by omega : D (k - 1) < E (k - 1) ∨ E (k - 1) < D (k - 1)) with hlt | hlt
          · go_wp2
            go_quiet (fail)
            go_wp2
            go_quiet (fail)
            go_wp2
            go_ret
            refine ⟨ret_int ?_, by simp only [World.drewN_drewN]; exact ⟨_, rfl⟩⟩
            have := Sm_lt_top hlt HA.out.1.dig HB.out.1.dig (by omega) (fun j h1 h2 => HE.out j (by omega) h2)
            rw [cmp3, if_pos this]
          · have hnl : decide (D (k - 1) < E (k - 1)) = false := by simp; omega
            go_wp2
            go_quiet (fail)
            go_wp2
            go_quiet (fail)
            go_wp2
            go_ret
            refine ⟨ret_int ?_, by simp only [World.drewN_drewN]; exact ⟨_, rfl⟩⟩
            have := Sm_lt_top hlt HB.out.1.dig HA.out.1.dig (by omega) (fun j h1 h2 => (HE.out j (by omega) h2).symm)
            rw [cmp3, if_neg (by omega), if_pos this]

theorem Try.info106 : (Try.prog.info? 106).map (fun i => (i.zero, i.size, i.bytes)) = some (some (.int .u32 0), 1, 4) := by kernel_rfl

/-- What addMag, subMag and mulMag return: digits without a zero at the top that say x; nothing old has turned. -/
def RetM (N : Nat) (w : World) (x : Int) (e : Ending) (w' : World) : Prop :=
  ∃ a n cap D, e = .returned (.slice a n cap) ∧ n ≤ cap ∧ n ≤ N ∧ Mag w' a n D ∧ (n = 0 ∨ D (n - 1) ≠ 0) ∧ Sm D n = x ∧ Below w.heap.size w w'

theorem row_upd {w : World} {b n k : Nat} {F : Nat → Int} {v : Int} (h : w.rowIs b 106 n (fun j => .int .u32 (F j))) : (w.setCell ⟨b, k, none⟩ (.int .u32 v)).rowIs b 106 n (fun j => .int .u32 (upd F k v j)) :=
  (h.set k (.int .u32 v)).congr fun i _ => by
    by_cases e : i = k
    · subst e; simp [upd_same]
    · rw [upd_other _ _ e]; simp [e]
theorem row_mag {w : World} {b n m : Nat} {F : Nat → Int} (h : w.rowIs b 106 n (fun j => .int .u32 (F j))) (hd : Dig F n) (hm : m ≤ n) : Mag w (some ⟨b, 0, none⟩) m F := fun i hi =>
  ⟨b, 0, rfl, by have := h.cell (i := i) (by omega); simpa using this, hd i (by omega)⟩
/-- mulMag: k digits of the first number are done. -/
def MulRel (wc : World) (n m : Nat) (D E : Nat → Int) (k : Nat) (F : Nat → Int) (wr : World) : Prop :=
  wr.rowIs wc.heap.size 106 (n + m) (fun j => .int .u32 (F j)) ∧ Dig F (n + m) ∧ (∀ j, k + m ≤ j → F j = 0) ∧ Sm F (n + m) = Sm D k * Sm E m ∧ Below wc.heap.size wc wr
/-- .. and j digits of the second, with the carry cy. -/
def MulIn (wc : World) (n m : Nat) (D E : Nat → Int) (k j : Nat) (cy : Int) (F : Nat → Int) (wr : World) : Prop :=
  wr.rowIs wc.heap.size 106 (n + m) (fun j => .int .u32 (F j)) ∧ Dig F (n + m) ∧ (∀ t, k + m ≤ t → F t = 0) ∧ Sm F (n + m) + cy * 4294967296 ^ (k + j) = Sm D k * Sm E m + D k * Sm E j * 4294967296 ^ k ∧ Below wc.heap.size wc wr
theorem MulRel.enter {wc wr : World} {n m k : Nat} {D E F : Nat → Int} (h : MulRel wc n m D E k F wr) : MulIn wc n m D E k 0 0 F wr := by
  obtain ⟨h1, h2, h3, h4, h5⟩ := h
  refine ⟨h1, h2, h3, ?_, h5⟩
  rw [h4]; simp [Sm]
theorem MulIn.step {wc wr : World} {n m k j : Nat} {D E F : Nat → Int} {cy t : Int} (h : MulIn wc n m D E k j cy F wr) (hj : j < m) (hk : k < n) (ht : t = D k * E j + F (k + j) + cy) :
    MulIn wc n m D E k (j + 1) (t / 4294967296) (upd F (k + j) (t % 4294967296)) (wr.setCell ⟨wc.heap.size, k + j, none⟩ (.int .u32 (t % 4294967296))) := by
  obtain ⟨h1, h2, h3, h4, h5⟩ := h
  refine ⟨row_upd h1, Dig_upd h2 (by omega) (by omega), ?_, ?_, h5.setCell (Nat.le_refl _) _⟩
  · intro q hq
    rw [upd_other _ _ (by omega)]
    exact h3 q hq
  · have e1 := Sm_upd (D := F) (i := k + j) (v := t % 4294967296) (n := n + m) (by omega)
    rw [Sm_succ]
    exact mul_step e1 h4 (by rw [← ht]; omega)
theorem MulIn.leave {wc wr : World} {n m k : Nat} {D E F : Nat → Int} {cy : Int} (h : MulIn wc n m D E k m cy F wr) (hk : k < n) (h0 : 0 ≤ cy) (h1 : cy < 4294967296) :
    MulRel wc n m D E (k + 1) (upd F (k + m) cy) (wr.setCell ⟨wc.heap.size, k + m, none⟩ (.int .u32 cy)) := by
  obtain ⟨g1, g2, g3, g4, g5⟩ := h
  refine ⟨row_upd g1, Dig_upd g2 h0 h1, ?_, ?_, g5.setCell (Nat.le_refl _) _⟩
  · intro q hq
    rw [upd_other _ _ (by omega)]
    exact g3 q (by omega)
  · rw [Sm_upd (by omega), g3 (k + m) (Nat.le_refl _), Sm_succ, Int.add_mul]
    have : D k * 4294967296 ^ k * Sm E m = D k * Sm E m * 4294967296 ^ k := by grind
    rw [this, ← g4]
    simp

theorem MulIn.drawn {wc wr : World} {n m k j : Nat} {D E F : Nat → Int} {cy : Int} {p : Addr} {v : Value} (h : MulIn wc n m D E k j cy F (wr.setCell p v)) (q : Nat) : MulIn wc n m D E k j cy F ((wr.drewN q).setCell p v) := by
  obtain ⟨h1, h2, h3, h4, h5⟩ := h
  exact ⟨h1, h2, h3, h4, h5.trans (below_drewN (wr.setCell p v) q _)⟩
theorem mul_dig {x y : Int} (hx0 : 0 ≤ x) (hx : x < 4294967296) (hy0 : 0 ≤ y) (hy : y < 4294967296) :
    0 ≤ x * y ∧ x * y ≤ 18446744065119617025 := by
  refine ⟨Int.mul_nonneg hx0 hy0, ?_⟩
  have := Int.mul_le_mul (show x ≤ 4294967295 by omega) (show y ≤ 4294967295 by omega) hy0 (by omega)
  omega

set_option maxHeartbeats 2000000 in
theorem mulMag_any (w : World) (a b : Option Addr) (n m ca cb N : Nat) (D E : Nat → Int) (hN : N < 1099511627776) (hn : n + m ≤ N) (ha : Mag w a n D) (hb : Mag w b m E) :
    Calls Try.prog 65 #[.slice a n ca, .slice b m cb] w (RetM N w (Sm D n * Sm E m)) := by
  have HA : Hid (Mag w a n D) := ha
  have HB : Hid (Mag w b m E) := hb
  clear ha hb
  have hmk := run_make_row' (P := Try.prog) 87 106 (.int .u32 0) 4 Try.underlying87 Try.info106 rfl .i64 .i64 (n + m) (by omega) (by omega)
  have ec : ((n + m : Nat) : Int) = (n : Int) + (m : Int) := by omega
  rw [ec] at hmk
  clear ec
  go_enter Try.func65, Try.ntmps65
  go_wp2
  clear hmk
  go_loopw [6] (fun i wr => ∃ (k : Nat) (F : Nat → Int), k ≤ n ∧ i = .int .i64 k ∧ MulRel w n m D E k F wr) (fun i _ => n - (intOf i).toNat)
  case atStart =>
    exact ⟨0, fun _ => 0, Nat.zero_le _, rfl, World.rowIs_made _ _ _ _, fun i hi => by simp, fun _ _ => rfl, by rw [Sm_zero (fun _ _ => rfl)]; simp [Sm], (Below.refl _ _).alloc (Nat.le_refl _) _⟩
  case round =>
    obtain ⟨k, F, hk, rfl, HR⟩ := hrel
    by_cases hlt : k < n
    · obtain ⟨ba, oa, rfl, hca, hda0, hda1⟩ := HA.out k hlt
      have HI := HR.enter
      clear HR
      obtain ⟨wo, rfl⟩ : ∃ wo : World, wo = wr := ⟨_, rfl⟩
      go_wp2
      go_loopw [7, 8] (fun c j wr => ∃ (q : Nat) (cy : Int) (F : Nat → Int), q ≤ m ∧ j = .int .i64 q ∧ c = .int .u64 cy ∧ 0 ≤ cy ∧ cy < 4294967296 ∧ MulIn w n m D E k q cy F wr) (fun _ j _ => m - (intOf j).toNat)
      case atStart => exact ⟨0, 0, F, Nat.zero_le _, rfl, rfl, by omega, by omega, HI⟩
      case round =>
        clear HI
        obtain ⟨q, cy, F, hq, rfl, rfl, hcy0, hcy1, HI⟩ := hrel
        by_cases hlq : q < m
        · obtain ⟨bb, ob, rfl, hcb, hdb0, hdb1⟩ := HB.out q hlq
          have hbel := HI.2.2.2.2
          have hca' : wr.cell? ⟨ba, oa + k, none⟩ = some (.int .u32 (D k)) := (hbel.cell (World.block_lt_of_cell? _ _ hca)).trans hca
          have hcb' : wr.cell? ⟨bb, ob + q, none⟩ = some (.int .u32 (E q)) := (hbel.cell (World.block_lt_of_cell? _ _ hcb)).trans hcb
          have hck := HI.1.cell (i := k + q) (by omega)
          have hfk := HI.1.frozen (k + q)
          have hdk := HI.2.1 (k + q) (by omega)
          have hmd := mul_dig hda0 hda1 hdb0 hdb1
          have HS : Hid (MulIn _ _ _ _ _ _ _ _ _ _) := HI.step (t := D k * E q + F (k + q) + cy) hlq hlt rfl
          have hmask := and_mask32 (D k * E q + F (k + q) + cy) (by omega) (by omega)
          clear hbel hcb HI
          have i0 : (k : Int) < (n : Int) := by omega
          have i1 : (q : Int) < (m : Int) := by omega
          have i2 : (k : Int) + (q : Int) < ((n + m : Nat) : Int) := by omega
          go_wp2
          go_quiet (fail)
          go_wp2
          exact ⟨⟨q + 1, _, _, by omega, by go_num, rfl, by omega, by omega, HS.out.drawn nq⟩, by simp [intOf]; omega⟩
        · obtain rfl : q = m := by omega
          have hck := HI.1.cell (i := k + q) (by omega)
          have hfk := HI.1.frozen (k + q)
          have HL := HI.leave hlt hcy0 hcy1
          clear HI
          go_wp2
          go_roundw
          case rel => exact ⟨k + 1, _, by omega, by go_num, HL⟩
          case measure => simp [intOf]; omega
    · obtain rfl : k = n := by omega
      go_wp2_with fail
      refine (trim_any _ _ (k + m) (k + m) F (by omega) (by omega) (row_mag HR.1 HR.2.1 (by omega))).mono ?_
      rintro e w1 ⟨rfl, q, hq, hz, ht, a', cap', rfl, hcap', hmag⟩
      have HF : Hid (Sm F q = Sm D k * Sm E m) := by
        show _ = _
        rw [mag_trim hq hz]; exact HR.2.2.2.1
      have HT : Hid (q = 0 ∨ F (q - 1) ≠ 0) := ht
      clear ht hz
      go_wp2
      go_ret
      exact ⟨a', q, cap', F, rfl, hcap', by omega, hmag, HT.out, HF.out, HR.2.2.2.2⟩
end Go.Proofs.Qxb6500776a
