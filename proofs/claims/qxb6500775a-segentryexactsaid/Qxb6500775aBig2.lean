import Derived.Test.Qxb6500775aBig
import Derived.Deep.QuietTactic
namespace Go.Proofs.Qxb6500775a
open Go.RowKit

/-- -1, 0 or 1 as x is less than, equal to or greater than y. -/
def cmp3 (x y : Int) : Int := if x < y then -1 else if y < x then 1 else 0
theorem below_drewN (w : World) (k B : Nat) : Below B w (w.drewN k) := by
  induction k with
  | zero => exact Below.refl _ _
  | succ k ih => exact ih.drew

set_option maxHeartbeats 400000 in
theorem cmpMag_any (w : World) (a b : Option Addr) (n m ca cb : Nat) (D E : Nat → Int) (hn : n ≤ 1099511627776) (hm : m ≤ 1099511627776) (ha : Mag w a n D) (hb : Mag w b m E) (hta : n = 0 ∨ D (n - 1) ≠ 0) (htb : m = 0 ∨ E (m - 1) ≠ 0) :
    Calls Try.prog 115 #[.slice a n ca, .slice b m cb] w fun e w' => e = .returned (.int .i64 (cmp3 (Sm D n) (Sm E m))) ∧ ∃ k, w' = w.drewN k := by
  have HA : Hid (Mag w a n D ∧ (n = 0 ∨ D (n - 1) ≠ 0)) := ⟨ha, hta⟩
  have HB : Hid (Mag w b m E ∧ (m = 0 ∨ E (m - 1) ≠ 0)) := ⟨hb, htb⟩
  clear ha hb hta htb
  rcases (by omega : n < m ∨ m < n ∨ n = m) with h | h | h
  · go_enter Try.func115, Try.ntmps115
    go_wp2
    go_ret
    refine ⟨ret_int ?_, 0, rfl⟩
    have := Sm_lt_len HA.out.1.dig HB.out.1.dig h (HB.out.2.resolve_left (by omega))
    rw [cmp3, if_pos this]
  · go_enter Try.func115, Try.ntmps115
    go_wp2
    go_ret
    refine ⟨ret_int ?_, 0, rfl⟩
    have := Sm_lt_len HB.out.1.dig HA.out.1.dig h (HA.out.2.resolve_left (by omega))
    rw [cmp3, if_neg (by omega), if_pos this]
  · subst h
    go_enter Try.func115, Try.ntmps115
    go_wp2
    go_loopw [5] (fun i wr => ∃ k : Nat, ∃ nd, k ≤ n ∧ wr = w.drewN nd ∧ i = .int .i64 ((k : Int) - 1) ∧ (∀ j, k ≤ j → j < n → D j = E j)) (fun i _ => (intOf i + 1).toNat)
    case atStart => exact ⟨n, 0, Nat.le_refl _, rfl, rfl, fun j h1 h2 => by omega⟩
    case round =>
      obtain ⟨k, nd, hk, rfl, rfl, he⟩ := hrel
      have HE : Hid (∀ j, k ≤ j → j < n → D j = E j) := he
      clear he
      by_cases h0 : k = 0
      · subst h0
        go_wp2
        go_ret
        refine ⟨ret_int ?_, nd, rfl⟩
        have : Sm D n = Sm E n := Sm_congr (fun i hi => HE.out i (by omega) hi)
        rw [this, cmp3, if_neg (by omega), if_neg (by omega)]
      · obtain ⟨ba, oa, rfl, hca, hda⟩ := HA.out.1 (k-1) (by omega)
        obtain ⟨bb, ob, rfl, hcb, hdb⟩ := HB.out.1 (k-1) (by omega)
        have i1 : (0 : Int) ≤ (k : Int) - 1 := by omega
        have i2 : (k : Int) - 1 < (n : Int) := by omega
        by_cases hde : D (k - 1) = E (k - 1)
        · have HD : Hid (D (k - 1) = E (k - 1)) := hde
          have hne : (D (k - 1) != E (k - 1)) = false := by simp [hde]
          clear hde
          go_wp2
          go_quiet (fail)
          go_wp2
          go_roundw
          case rel =>
            refine ⟨k - 1, nd + nq, by omega, rfl, by go_num, ?_⟩
            intro j h1 h2
            by_cases hj : j = k - 1
            · rw [hj]; exact HD.out
            · exact HE.out j (by omega) h2
          case measure => simp [intOf]; omega
        · have hne : (D (k - 1) != E (k - 1)) = true := by simp [hde]
          rcases (by omega : D (k - 1) < E (k - 1) ∨ E (k - 1) < D (k - 1)) with hlt | hlt
          · go_wp2
            go_quiet (fail)
            go_wp2
            go_quiet (fail)
            go_wp2
            go_ret
            refine ⟨ret_int ?_, by simp only [World.drewN_drewN]; exact ⟨_, rfl⟩⟩
            have := Sm_lt_top hlt HA.out.1.dig HB.out.1.dig (by omega) (fun j h1 h2 => HE.out j (by omega) h2)
            rw [cmp3, if_pos this]
          · have hnl : decide (D (k - 1) < E (k - 1)) = false := by simp; omega
            go_wp2
            go_quiet (fail)
            go_wp2
            go_quiet (fail)
            go_wp2
            go_ret
            refine ⟨ret_int ?_, by simp only [World.drewN_drewN]; exact ⟨_, rfl⟩⟩
            have := Sm_lt_top hlt HB.out.1.dig HA.out.1.dig (by omega) (fun j h1 h2 => (HE.out j (by omega) h2).symm)
            rw [cmp3, if_neg (by omega), if_pos this]

theorem Try.info73 : (Try.prog.info? 73).map (fun i => (i.zero, i.size, i.bytes)) = some (some (.int .u32 0), 1, 4) := by kernel_rfl

/-- What addMag, subMag and mulMag return: digits without a zero at the top that say x; nothing old has turned. -/
def RetM (N : Nat) (w : World) (x : Int) (e : Ending) (w' : World) : Prop :=
  ∃ a n cap D, e = .returned (.slice a n cap) ∧ n ≤ cap ∧ n ≤ N ∧ Mag w' a n D ∧ (n = 0 ∨ D (n - 1) ≠ 0) ∧ Sm D n = x ∧ Below w.heap.size w w'

theorem row_upd {w : World} {b n k : Nat} {F : Nat → Int} {v : Int} (h : w.rowIs b 73 n (fun j => .int .u32 (F j))) : (w.setCell ⟨b, k, none⟩ (.int .u32 v)).rowIs b 73 n (fun j => .int .u32 (upd F k v j)) :=
  (h.set k (.int .u32 v)).congr fun i _ => by
    by_cases e : i = k
    · subst e; simp [upd_same]
    · rw [upd_other _ _ e]; simp [e]
theorem row_mag {w : World} {b n m : Nat} {F : Nat → Int} (h : w.rowIs b 73 n (fun j => .int .u32 (F j))) (hd : Dig F n) (hm : m ≤ n) : Mag w (some ⟨b, 0, none⟩) m F := fun i hi =>
  ⟨b, 0, rfl, by have := h.cell (i := i) (by omega); simpa using this, hd i (by omega)⟩
/-- What a round of addMag hands on. -/
def AddRel (wc : World) (l : Nat) (D E : Nat → Int) (k : Nat) (cy : Int) (F : Nat → Int) (wr : World) : Prop :=
  wr.rowIs wc.heap.size 73 (l + 1) (fun j => .int .u32 (F j)) ∧ Dig F (l + 1) ∧ Sm F k + cy * 4294967296 ^ k = Sm D k + Sm E k ∧ Below wc.heap.size wc wr
theorem AddRel.step {wc wr : World} {l k : Nat} {D E F : Nat → Int} {cy s : Int} (h : AddRel wc l D E k cy F wr) (hs : s = cy + D k + E k) :
    AddRel wc l D E (k + 1) (s / 4294967296) (upd F k (s % 4294967296)) (wr.setCell ⟨wc.heap.size, k, none⟩ (.int .u32 (s % 4294967296))) := by
  obtain ⟨h1, h2, h3, h4⟩ := h
  exact ⟨row_upd h1, Dig_upd h2 (by omega) (by omega), add_round h3 hs, h4.setCell (Nat.le_refl _) _⟩

set_option maxHeartbeats 1000000 in
theorem addMag_any (w : World) (a b : Option Addr) (n m ca cb N : Nat) (D E : Nat → Int) (hN : N < 1099511627776) (hn : n ≤ N) (hm : m ≤ N) (ha : Mag w a n D) (hb : Mag w b m E) :
    Calls Try.prog 114 #[.slice a n ca, .slice b m cb] w (RetM (N + 1) w (Sm D n + Sm E m)) := by
  have HA : Hid (Mag w a n D) := ha
  have HB : Hid (Mag w b m E) := hb
  clear ha hb
  go_enter Try.func114, Try.ntmps114
  go_upto_if 15 with fail
  go_cut [5] (fun s5 wx => wx = w ∧ ∃ l : Nat, l ≤ N ∧ n ≤ l ∧ m ≤ l ∧ (l ≤ n ∨ l ≤ m) ∧ s5 = .int .i64 l)
  case first =>
    by_cases h : n < m
    · go_wp2
      go_meet
      case rel => exact ⟨rfl, m, hm, by omega, by omega, by omega, rfl⟩
    · go_wp2
      go_meet
      case rel => exact ⟨rfl, n, hn, by omega, by omega, by omega, rfl⟩
  obtain ⟨rfl, l, hl, hnl, hml, hor, rfl⟩ := hcut
  have hmk := run_make_row' (P := Try.prog) 24 73 (.int .u32 0) 4 Try.underlying24 Try.info73 rfl .i64 .i64 (l + 1) (by omega) (by omega)
  have ec : ((l + 1 : Nat) : Int) = (l : Int) + 1 := by omega
  rw [ec] at hmk
  clear ec
  go_wp2
  clear hmk
  go_loopw [7, 8] (fun c i wr => ∃ (k : Nat) (cy : Int) (F : Nat → Int), k ≤ l ∧ i = .int .i64 k ∧ c = .int .u64 cy ∧ 0 ≤ cy ∧ cy ≤ 1 ∧ AddRel wc l (ext D n) (ext E m) k cy F wr) (fun _ i _ => l - (intOf i).toNat)
  case atStart =>
    exact ⟨0, 0, fun _ => 0, Nat.zero_le _, rfl, rfl, by omega, by omega, World.rowIs_made _ _ _ _, fun i hi => by simp, rfl, (Below.refl _ _).alloc (Nat.le_refl _) _⟩
  case round =>
    obtain ⟨k, cy, F, hk, rfl, rfl, hcy0, hcy1, HR⟩ := hrel
    have hck := HR.1.cell (i := k) (by omega)
    have hfk := HR.1.frozen k
    have hbel := HR.2.2.2
    by_cases hlt : k < l
    · by_cases h1 : k < n
      · obtain ⟨ba, oa, rfl, hca, hda0, hda1⟩ := HA.out k h1
        have hca' : wr.cell? ⟨ba, oa + k, none⟩ = some (.int .u32 (D k)) := (hbel.cell (World.block_lt_of_cell? _ _ hca)).trans hca
        by_cases h2 : k < m
        · obtain ⟨bb, ob, rfl, hcb, hdb0, hdb1⟩ := HB.out k h2
          have hcb' : wr.cell? ⟨bb, ob + k, none⟩ = some (.int .u32 (E k)) := (hbel.cell (World.block_lt_of_cell? _ _ hcb)).trans hcb
          have hmask := and_mask32 (cy + D k + E k) (by omega) (by omega)
          clear hbel hca hcb
          have R := HR.step (s := cy + D k + E k) (by rw [ext_lt h1, ext_lt h2])
          have HS : Hid (AddRel _ _ _ _ _ _ _ _) := R
          clear R
          go_wp2
          exact ⟨⟨k + 1, _, _, by omega, by go_num, rfl, by omega, by omega, HS.out⟩, by simp [intOf]; omega⟩
        · have hmask := and_mask32 (cy + D k) (by omega) (by omega)
          clear hbel hca
          have R := HR.step (s := cy + D k) (by rw [ext_lt h1, ext_ge (by omega)]; omega)
          have HS : Hid (AddRel _ _ _ _ _ _ _ _) := R
          clear R
          go_wp2
          exact ⟨⟨k + 1, _, _, by omega, by go_num, rfl, by omega, by omega, HS.out⟩, by simp [intOf]; omega⟩
      · by_cases h2 : k < m
        · obtain ⟨bb, ob, rfl, hcb, hdb0, hdb1⟩ := HB.out k h2
          have hcb' : wr.cell? ⟨bb, ob + k, none⟩ = some (.int .u32 (E k)) := (hbel.cell (World.block_lt_of_cell? _ _ hcb)).trans hcb
          have hmask := and_mask32 (cy + E k) (by omega) (by omega)
          clear hbel hcb
          have R := HR.step (s := cy + E k) (by rw [ext_ge (by omega), ext_lt h2]; omega)
          have HS : Hid (AddRel _ _ _ _ _ _ _ _) := R
          clear R
          go_wp2
          exact ⟨⟨k + 1, _, _, by omega, by go_num, rfl, by omega, by omega, HS.out⟩, by simp [intOf]; omega⟩
        · omega
    · clear hbel
      obtain rfl : k = l := by omega
      go_wp2_with fail
      have hd2 : Dig (upd F k cy) (k + 1) := Dig_upd HR.2.1 hcy0 (by omega)
      refine (trim_any _ _ (k + 1) (k + 1) (upd F k cy) (by omega) (by omega) (row_mag (row_upd HR.1) hd2 (by omega))).mono ?_
      rintro e w1 ⟨rfl, q, hq, hz, ht, a', cap', rfl, hcap', hmag⟩
      have hfin : Sm (upd F k cy) q = Sm D n + Sm E m := by
        rw [mag_trim hq hz, Sm_succ, upd_same, Sm_upd_ge (Nat.le_refl _), HR.2.2.1, Sm_ext hnl, Sm_ext hml]
      have HF : Hid (Sm (upd F k cy) q = Sm D n + Sm E m) := hfin
      have HT : Hid (q = 0 ∨ upd F k cy (q - 1) ≠ 0) := ht
      clear hfin ht hz
      go_wp2
      go_ret
      exact ⟨a', q, cap', upd F k cy, rfl, hcap', by omega, hmag, HT.out, HF.out, HR.2.2.2.setCell (Nat.le_refl _) _⟩

/-- What a round of subMag hands on. -/
def SubRel (wc : World) (l : Nat) (D E : Nat → Int) (k : Nat) (cy : Int) (F : Nat → Int) (wr : World) : Prop :=
  wr.rowIs wc.heap.size 73 l (fun j => .int .u32 (F j)) ∧ Dig F l ∧ Sm F k = Sm D k - Sm E k + cy * 4294967296 ^ k ∧ Below wc.heap.size wc wr
theorem SubRel.step {wc wr : World} {l k : Nat} {D E F : Nat → Int} {cy d v : Int} (h : SubRel wc l D E k cy F wr) (hv : v = D k - E k - cy + d * 4294967296) (h0 : 0 ≤ v) (h1 : v < 4294967296) :
    SubRel wc l D E (k + 1) d (upd F k v) (wr.setCell ⟨wc.heap.size, k, none⟩ (.int .u32 v)) := by
  obtain ⟨g1, g2, g3, g4⟩ := h
  refine ⟨row_upd g1, Dig_upd g2 h0 h1, ?_, g4.setCell (Nat.le_refl _) _⟩
  rw [hv]; exact sub_round g3

set_option maxHeartbeats 1000000 in
theorem subMag_any (w : World) (a b : Option Addr) (n m ca cb N : Nat) (D E : Nat → Int) (hN : N < 1099511627776) (hn : n ≤ N) (hm : m ≤ n) (ha : Mag w a n D) (hb : Mag w b m E) (hle : Sm E m ≤ Sm D n) :
    Calls Try.prog 116 #[.slice a n ca, .slice b m cb] w (RetM N w (Sm D n - Sm E m)) := by
  have HA : Hid (Mag w a n D) := ha
  have HB : Hid (Mag w b m E) := hb
  have HL : Hid (Sm E m ≤ Sm D n) := hle
  clear ha hb hle
  have hmk := run_make_row' (P := Try.prog) 24 73 (.int .u32 0) 4 Try.underlying24 Try.info73 rfl .i64 .i64 n (by omega) (by omega)
  go_enter Try.func116, Try.ntmps116
  go_wp2
  clear hmk
  go_loopw [6, 7] (fun c i wr => ∃ (k : Nat) (cy : Int) (F : Nat → Int), k ≤ n ∧ i = .int .i64 k ∧ c = .int .u64 cy ∧ 0 ≤ cy ∧ cy ≤ 1 ∧ SubRel w n D (ext E m) k cy F wr) (fun _ i _ => n - (intOf i).toNat)
  case atStart =>
    exact ⟨0, 0, fun _ => 0, Nat.zero_le _, rfl, rfl, by omega, by omega, World.rowIs_made _ _ _ _, fun i hi => by simp, rfl, (Below.refl _ _).alloc (Nat.le_refl _) _⟩
  case round =>
    obtain ⟨k, cy, F, hk, rfl, rfl, hcy0, hcy1, HR⟩ := hrel
    have hbel := HR.2.2.2
    by_cases hlt : k < n
    · have hck := HR.1.cell (i := k) (by omega)
      have hfk := HR.1.frozen k
      obtain ⟨ba, oa, rfl, hca, hda0, hda1⟩ := HA.out k hlt
      have hca' : wr.cell? ⟨ba, oa + k, none⟩ = some (.int .u32 (D k)) := (hbel.cell (World.block_lt_of_cell? _ _ hca)).trans hca
      by_cases h2 : k < m
      · obtain ⟨bb, ob, rfl, hcb, hdb0, hdb1⟩ := HB.out k h2
        have hcb' : wr.cell? ⟨bb, ob + k, none⟩ = some (.int .u32 (E k)) := (hbel.cell (World.block_lt_of_cell? _ _ hcb)).trans hcb
        clear hbel hca hcb
        by_cases h3 : D k < cy + E k
        · have HS : Hid (SubRel _ _ _ _ _ _ _ _) := HR.step (d := 1) (v := D k + 4294967296 - (cy + E k)) (by rw [ext_lt h2]; omega) (by omega) (by omega)
          go_wp2
          exact ⟨⟨k + 1, _, _, by omega, by go_num, rfl, by omega, by omega, HS.out⟩, by simp [intOf]; omega⟩
        · have HS : Hid (SubRel _ _ _ _ _ _ _ _) := HR.step (d := 0) (v := D k - (cy + E k)) (by rw [ext_lt h2]; omega) (by omega) (by omega)
          go_wp2
          exact ⟨⟨k + 1, _, _, by omega, by go_num, rfl, by omega, by omega, HS.out⟩, by simp [intOf]; omega⟩
      · clear hbel hca
        by_cases h3 : D k < cy
        · have HS : Hid (SubRel _ _ _ _ _ _ _ _) := HR.step (d := 1) (v := D k + 4294967296 - cy) (by rw [ext_ge (by omega)]; omega) (by omega) (by omega)
          go_wp2
          exact ⟨⟨k + 1, _, _, by omega, by go_num, rfl, by omega, by omega, HS.out⟩, by simp [intOf]; omega⟩
        · have HS : Hid (SubRel _ _ _ _ _ _ _ _) := HR.step (d := 0) (v := D k - cy) (by rw [ext_ge (by omega)]; omega) (by omega) (by omega)
          go_wp2
          exact ⟨⟨k + 1, _, _, by omega, by go_num, rfl, by omega, by omega, HS.out⟩, by simp [intOf]; omega⟩
    · obtain rfl : k = n := by omega
      clear hbel
      go_wp2_with fail
      refine (trim_any _ _ k k F (by omega) (by omega) (row_mag HR.1 HR.2.1 (by omega))).mono ?_
      rintro e w1 ⟨rfl, q, hq, hz, ht, a', cap', rfl, hcap', hmag⟩
      have hfin : Sm F q = Sm D k - Sm E m := by
        have h1 := HR.2.2.1
        rw [Sm_ext hm] at h1
        have h2 := Sm_lt HR.2.1
        have h3 := Sm_nonneg HR.2.1
        have h4 := HL.out
        have h5 := Bpow_pos k
        rw [mag_trim hq hz]
        by_cases hc : cy = 0
        · rw [h1, hc]; omega
        · have : cy = 1 := by omega
          rw [this] at h1
          omega
      have HF : Hid (Sm F q = Sm D k - Sm E m) := hfin
      have HT : Hid (q = 0 ∨ F (q - 1) ≠ 0) := ht
      clear hfin ht hz
      go_wp2
      go_ret
      exact ⟨a', q, cap', F, rfl, hcap', by omega, hmag, HT.out, HF.out, HR.2.2.2⟩
end Go.Proofs.Qxb6500775a
