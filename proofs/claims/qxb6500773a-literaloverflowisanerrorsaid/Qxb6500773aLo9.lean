import Derived.Test.Qxb6500773aLo8
import Derived.Test.Qxb6500773aPl5
import Derived.Test.Qxb6500773aDr1
import Derived.Test.Qxb6500773aFm2
namespace Go.Proofs.Qxb6500773a
open Go.RowKit

/-- The bytes of a text taken as digits. -/
def digW (T : Nat → Int) (n : Nat) : List Int := (List.range n).map fun j => 48 + T j % 10
theorem digW_len (T : Nat → Int) (n : Nat) : (digW T n).length = n := by simp [digW]
theorem digW_succ (T : Nat → Int) (n : Nat) : digW T (n + 1) = digW T n ++ [48 + T n % 10] := by simp [digW, List.range_succ]
theorem digW_dig (T : Nat → Int) (n : Nat) : ∀ x ∈ digW T n, 48 ≤ x ∧ x ≤ 57 := fun x hx => by
  obtain ⟨j, -, rfl⟩ := List.mem_map.1 hx
  omega
theorem digW_val (T : Nat → Int) (n : Nat) : digV (digW T (n + 1)) 0 = digV (digW T n) 0 * 10 + T n % 10 := by
  rw [digW_succ, digV_app]
  show digV (digW T n) 0 * 10 + (48 + T n % 10 - 48) = _
  omega
theorem digW_nn (T : Nat → Int) (n : Nat) : 0 ≤ digV (digW T n) 0 := digV_mono _ 0 (fun x hx => (digW_dig T n x hx).1) (Int.le_refl _)
/-- What is known of the value so far. -/
structure Vb (T : Nat → Int) (i : Nat) (bey : Bool) (val : Int) : Prop where
  lo : bey = false → val = digV (digW T i) 0 ∧ val ≤ 16777215
  hi : bey = true → 16777215 < digV (digW T i) 0
  rg : 0 ≤ val ∧ val ≤ 1000000000
theorem vb0 (T : Nat → Int) : Vb T 0 false 0 := ⟨fun _ => ⟨rfl, by decide⟩, (fun z => by cases z), ⟨by decide, by decide⟩⟩
theorem vb_lo {T : Nat → Int} {i : Nat} {val : Int} (h : Vb T i false val) : Vb T (i + 1) (decide (16777215 < val * 10 + T i % 10)) (val * 10 + T i % 10) := by
  obtain ⟨h1, h2⟩ := h.lo rfl
  have h3 := h.rg
  refine ⟨fun z => ?_, fun z => ?_, by omega⟩
  · have z2 := of_decide_eq_false z
    rw [digW_val, ← h1]
    exact ⟨rfl, by omega⟩
  · have z2 := of_decide_eq_true z
    rw [digW_val, ← h1]
    exact z2
theorem vb_hi {T : Nat → Int} {i : Nat} {val : Int} (h : Vb T i true val) : Vb T (i + 1) true val := by
  have h1 := h.hi rfl
  refine ⟨(fun z => by cases z), fun _ => ?_, h.rg⟩
  rw [digW_val]
  have : 0 ≤ T i % 10 := by omega
  omega
theorem lies_of {Y : List Int} : Lies (fun i => Y.getD i 0) Y.length 0 Y := ⟨by omega, fun i x hx => by
  rw [Nat.zero_add]
  show Y.getD i 0 = x
  rw [List.getD_eq_getElem?_getD, hx]
  rfl⟩
theorem txt_byte {neg : Bool} {W : List Int} (hd : ∀ x ∈ W, 48 ≤ x ∧ x ≤ 57) : ∀ x ∈ numL neg W ++ [32, 48, 10], 0 ≤ x ∧ x < 256 := fun x hx => by
  rcases List.mem_append.1 hx with e | e
  · exact ⟨(numL_tok hd x e).2.2.2.1, (numL_tok hd x e).2.2.2.2⟩
  · simp at e; omega
theorem hdT_byte (nv : Int) (k : Nat) : ∀ x ∈ hdT nv k, 0 ≤ x ∧ x < 256 := fun x hx => by
  have dec : ∀ v : Int, x ∈ decI v → 0 ≤ x ∧ x < 256 := fun v e => ⟨(decI_nosp x e).2.2.2.1, (decI_nosp x e).2.2.2.2⟩
  unfold hdT at hx
  rcases List.mem_append.1 hx with e | e
  · simp at e; omega
  · rcases List.mem_append.1 e with e | e
    · exact dec _ e
    · rcases List.mem_append.1 e with e | e
      · simp at e; omega
      · rcases List.mem_append.1 e with e | e
        · exact dec _ e
        · simp at e; omega
theorem hdT_len : (hdT 16777215 1).length ≤ 100 := by
  have h3 := decI_le (n := 16777215) (by decide)
  have h4 := decI_le (n := ((1 : Nat) : Int)) (by decide)
  unfold hdT
  simp only [List.length_append, List.length_cons, List.length_nil]
  omega
theorem lit_bey {neg : Bool} {W : List Int} (h : 16777215 < digV W 0) : litP (numV neg W) = (0, 2) := by
  have : numV neg W = (0, 1) := by unfold numV; rw [if_pos h]
  rw [this]
  rfl
theorem lit_nb {neg : Bool} {W : List Int} (hd : ∀ x ∈ W, 48 ≤ x ∧ x ≤ 57) (h : ¬ 16777215 < digV W 0) : (litP (numV neg W)).2 ≠ 2 := by
  have hr := numV_rng (neg := neg) hd
  have hc : (numV neg W).2 = 0 ∨ (numV neg W).2 = 2 := by
    unfold numV
    rw [if_neg h]
    split
    · split
      · exact .inl rfl
      · exact .inr rfl
    · exact .inr rfl
  unfold litP
  rcases hc with z | z
  · rw [if_pos z]; decide
  · have := hr z
    rw [if_neg (by omega), if_neg (by omega)]
    split
    · decide
    · next h0 =>
      unfold fromP
      rw [if_neg h0, if_neg (by omega)]
      show (0 : Int) ≠ 2
      decide
/-- What the two parsers say at a numeral. -/
def NmRes (bey : Bool) (l0 : Int) (e : Ending) : Prop := ∃ pv er ln col, e = .returned (.tuple #[pv, faV er ln col]) ∧ (bey = true → pv = .pointer none ∧ er = 2 ∧ ln = l0 ∧ col = 1) ∧ (bey = false → er ≠ 2)
theorem dim_res {w w' : World} {T : Nat → Int} {n : Nat} {e : Ending} {neg : Bool} {W : List Int} {bey : Bool} (hp : FdPost w T n e w') (hn : n = (hdT 16777215 1 ++ (numL neg W ++ [32, 48, 10])).length) (h : Lies T n 0 (hdT 16777215 1 ++ (numL neg W ++ [32, 48, 10]))) (hW : W ≠ []) (hd : ∀ x ∈ W, 48 ≤ x ∧ x ≤ 57) (hb : bey = true ↔ 16777215 < digV W 0) : Below w.heap.size w w' ∧ NmRes bey 2 e := by
  obtain ⟨b, hc⟩ := dimacs_one hp hn h hW hd
  refine ⟨b, ?_⟩
  cases bey
  · have hnb : ¬ 16777215 < digV W 0 := fun z => by cases hb.2 z
    have h2 := lit_nb (neg := neg) hd hnb
    rcases hc with ⟨-, rfl⟩ | ⟨-, ⟨-, ln, col, rfl⟩ | ⟨-, b2, va, ve, rfl, -, -⟩⟩
    · exact ⟨_, _, _, _, rfl, (fun z => by cases z), fun _ => h2⟩
    · exact ⟨_, _, _, _, rfl, (fun z => by cases z), fun _ => by decide⟩
    · exact ⟨_, _, _, _, rfl, (fun z => by cases z), fun _ => by decide⟩
  · have h2 := lit_bey (neg := neg) (hb.1 rfl)
    rw [h2] at hc
    rcases hc with ⟨-, rfl⟩ | ⟨z, -⟩
    · exact ⟨_, _, _, _, rfl, fun _ => ⟨rfl, rfl, rfl, rfl⟩, (fun z => by cases z)⟩
    · cases z
theorem drat_res {w w' : World} {T : Nat → Int} {n : Nat} {e : Ending} {neg : Bool} {W : List Int} {bey : Bool} (hp : PdPost w T n e w') (hn : n = (numL neg W ++ [32, 48, 10]).length) (h : Lies T n 0 (numL neg W ++ [32, 48, 10])) (hW : W ≠ []) (hd : ∀ x ∈ W, 48 ≤ x ∧ x ≤ 57) (hb : bey = true ↔ 16777215 < digV W 0) : Below w.heap.size w w' ∧ NmRes bey 1 e := by
  obtain ⟨b, hc⟩ := drat_one hp hn h hW hd
  refine ⟨b, ?_⟩
  cases bey
  · have hnb : ¬ 16777215 < digV W 0 := fun z => by cases hb.2 z
    have h2 := lit_nb (neg := neg) hd hnb
    rcases hc with ⟨-, rfl⟩ | ⟨-, b2, va, ve, vd, rfl, -, -⟩
    · exact ⟨_, _, _, _, rfl, (fun z => by cases z), fun _ => h2⟩
    · exact ⟨_, _, _, _, rfl, (fun z => by cases z), fun _ => by decide⟩
  · have h2 := lit_bey (neg := neg) (hb.1 rfl)
    rw [h2] at hc
    rcases hc with ⟨-, rfl⟩ | ⟨z, -⟩
    · exact ⟨_, _, _, _, rfl, fun _ => ⟨rfl, rfl, rfl, rfl⟩, (fun z => by cases z)⟩
    · cases z
theorem cells3 {w : World} {x y z : Int} : (w.alloc (.cells #[.int .i64 x, .int .i64 y, .int .i64 z] 32)).cell? ⟨w.heap.size, 0, none⟩ = some (.int .i64 x) ∧ (w.alloc (.cells #[.int .i64 x, .int .i64 y, .int .i64 z] 32)).cell? ⟨w.heap.size, 1, none⟩ = some (.int .i64 y) ∧ (w.alloc (.cells #[.int .i64 x, .int .i64 y, .int .i64 z] 32)).cell? ⟨w.heap.size, 2, none⟩ = some (.int .i64 z) := ⟨by simp [go_sem], by simp [go_sem], by simp [go_sem]⟩
set_option linter.unusedSimpArgs false in
set_option maxRecDepth 100000 in
set_option maxHeartbeats 4000000 in
/-- cnflaw.numeralIsJudged -/
theorem numeral_any (w : World) (a : Option Addr) (n c : Nat) (T : Nat → Int) (neg : Bool) (h : BT w a n T) (hn : n ≤ 65536) :
    Calls Try.prog 13 #[.slice a n c, .bool neg] w (SaPost w true) := by
  obtain ⟨i0, hi0, hz0, hz1, hz2⟩ := info_of Try.info5
  have HI := hide (And.intro hi0 (And.intro hz0 (And.intro hz1 hz2)))
  clear hi0 hz0 hz1 hz2
  have HBT := hide h
  clear h
  by_cases hn0 : n = 0
  · subst hn0
    go_enter Try.func13, Try.ntmps13
    go_wp2
    go_ret
    exact ⟨rfl, Below.refl _ _⟩
  · have hnb : ((n : Int) == 0) = false := by rw [beq_eq_false_iff_ne]; omega
    have hnc : (n == 0) = false := by rw [beq_eq_false_iff_ne]; omega
    have HN0 := hide (show 0 < n by omega)
    clear hn0
    go_enter Try.func13, Try.ntmps13
    go_upto_region 4 with fail
    have HLW := hide (show BB (w.alloc (.cells #[] 5)) w.heap.size (.slice (some ⟨w.heap.size, 0, none⟩) 0 0) [] from World.ownsRow_made (base := w.heap.size) (e := 5) (size := 1) w #[] 0 (Nat.le_refl _) (by decide) rfl)
    have HB1 := hide (be1 w (.cells #[] 5))
    generalize w.alloc (.cells #[] 5) = w1 at *
    obtain ⟨L0, hL0⟩ : ∃ L0, w.heap.size = L0 := ⟨_, rfl⟩
    have HL0 := hide hL0
    rw [hL0] at HLW ⊢
    clear hL0
    cases neg
    · go_upto_region 6 with fail
      have HG1 := hide (show BG w1 L0 (.slice (some ⟨L0, 0, none⟩) 0 0) w1 (.slice (some ⟨L0, 0, none⟩) 0 0) (numL false []) from BG.refl HLW.out)
      go_wp2
      go_loopw [5, 6, 7, 9, 24] (fun s5 s6 s7 _ s24 wx => ∃ (i : Nat) (Q : List Int) (a2 : Option Addr) (c2 : Nat) (bey : Bool) (val : Int), s24 = .int .i64 i ∧ i ≤ n ∧ s5 = .slice a2 Q.length c2 ∧ s6 = .bool bey ∧ s7 = .int .i64 val ∧ Hid (Q = numL false (digW T i)) ∧ Vb T i bey val ∧ BG w1 L0 (.slice (some ⟨L0, 0, none⟩) 0 0) wx (.slice a2 Q.length c2) Q) (fun _ _ _ _ s24 _ => n - (intOf s24).toNat)
      case atStart => exact ⟨0, numL false [], _, _, false, 0, rfl, Nat.zero_le _, rfl, rfl, rfl, hide rfl, vb0 T, HG1.out⟩
      case round =>
        obtain ⟨i, Q, a2, c2, bey, val, rfl, hi, rfl, rfl, rfl, HQE, hvb, hbg⟩ := hrel
        have HVB := hide hvb
        have HDG := hide hbg
        have HBB2 := hide (show Below w.heap.size w wr from HB1.out.trans (hbg.ex.below HB1.out.size (fun k hk z => by have e : L0 = k := Option.some.inj z; have := HL0.out; omega)))
        clear hvb hbg
        by_cases hlt : i < n
        · have HDB := hide HDG.out.bb
          have HBSD := hide (show L0 ≤ wr.heap.size from by have := HBB2.out.size; have := HL0.out; omega)
          have HQL := hide (show Q.length ≤ 70000 from by rw [HQE.out]; unfold numL; rw [List.length_append, digW_len]; split <;> simp <;> omega)
          obtain ⟨g, o, ea, hc, hb0, hb1⟩ := (HBT.out.below HBB2.out) i hlt
          cases ea
          have HQ5' := hide (show Q ++ [48 + T i % 10] = numL false (digW T (i + 1)) by rw [HQE.out, digW_succ]; unfold numL; rw [List.append_assoc])
          have HVL := hide (show bey = false → Vb T (i + 1) (decide (16777215 < val * 10 + T i % 10)) (val * 10 + T i % 10) from fun z => by subst z; exact vb_lo HVB.out)
          have HVH := hide (show bey = true → Vb T (i + 1) true val from fun z => by subst z; exact vb_hi HVB.out)
          obtain ⟨b, hb⟩ : ∃ b, T i = b := ⟨_, rfl⟩
          rw [hb] at hc hb0 hb1 HQ5' HVL
          have HBE := hide hb
          clear hb
          have hrg := HVB.out.rg
          have h1 : decide ((i : Int) < (n : Int)) = true := by simp; omega
          have h1n : decide (i < n) = true := by simp; omega
          have h2 : decide ((i : Int) < 0) = false := by simp
          have h3 : (i : Int) < (n : Int) := by omega
          have h4 : IntKind.i64.wrap ((i : Int) + 1) = (i : Int) + 1 := by rw [IntKind.wrap_i64]; omega
          have m1 : Int.tmod b 10 = b % 10 := Int.tmod_eq_emod_of_nonneg hb0
          have m2 : IntKind.u8.wrap (b % 10) = b % 10 := by rw [IntKind.wrap_u8]; omega
          have m3 : IntKind.u8.wrap (48 + b % 10) = 48 + b % 10 := by rw [IntKind.wrap_u8]; omega
          have m4 : IntKind.i64.wrap (val * 10) = val * 10 := by rw [IntKind.wrap_i64]; omega
          have m5 : IntKind.i64.wrap (b % 10) = b % 10 := by rw [IntKind.wrap_i64]; omega
          have m6 : IntKind.i64.wrap (val * 10 + b % 10) = val * 10 + b % 10 := by rw [IntKind.wrap_i64]; omega
          have HZw5 := hide (show BB (wr.alloc (.cells #[.int .u8 (48 + b % 10)] 5)) L0 (.slice a2 Q.length c2) (Q) from BB.below HDB.out (be1 wr _))
          have HSw5 := hide (show L0 ≤ (wr.alloc (.cells #[.int .u8 (48 + b % 10)] 5)).heap.size from Nat.le_trans HBSD.out (be1 wr _).size)
          have HNw5 := hide (show ∀ (j : Nat) (u : Value), ([.int .u8 (48 + b % 10)] : List Value)[j]? = some u → (wr.alloc (.cells #[.int .u8 (48 + b % 10)] 5)).cell? ((⟨wr.heap.size, 0, none⟩ : Addr).add j) = some u from fun j u hj => new_cells wr [.int .u8 (48 + b % 10)] 5 j u hj)
          go_upto_region 12 with (at_builtin; go_loud (refine wpList_append_lies _ rfl (.tmp 28) (.tmp 32) 26 rfl L0 5 i0 _ 1 1 Try.underlying26 HI.out.1 HI.out.2.1 HI.out.2.2.1 HI.out.2.2.2 rfl (by decide) (.slice a2 Q.length c2) (Q).length ((Q).map (Value.int .u8)) rfl HZw5.out ⟨wr.heap.size, 0, none⟩ 1 1 [.int .u8 (48 + b % 10)] rfl rfl HNw5.out (fun u hu => by simp at hu; (first | (subst hu; rfl) | (rcases hu with hu | hu <;> (subst hu; rfl)))) (by decide) (by have := HQL.out; unfold maxLen; omega) (by have := HQL.out; omega) HSw5.out _ rfl ?_; intro gw5 capw5 w5 hr hg hat hlt2; have HPw5 := hide (bg_app (Z := [48 + b % 10]) HDB.out hr hg hat); clear hr hg hat hlt2 HZw5 HSw5 HNw5))
          obtain ⟨Q5, hQw5⟩ : ∃ Q5, (Q) ++ [48 + b % 10] = Q5 := ⟨_, rfl⟩
          have HQw5 := hide hQw5.symm
          rw [hQw5] at HPw5
          rw [show (Q).length + 1 = Q5.length from by rw [← hQw5]; simp only [List.length_append, List.length_cons, List.length_nil]]
          clear hQw5
          have HG5 := hide (HDG.out.trans HPw5.out)
          have HQ6 := hide (show Q5 = numL false (digW T (i + 1)) from by rw [HQw5.out]; exact HQ5'.out)
          clear HPw5 HQw5 HDG HDB HBSD HQL hc HQE HVB HQ5'
          cases bey
          · replace HVL := hide (HVL.out rfl)
            clear HVH
            go_wp2
            go_roundw
            case rel => exact ⟨i + 1, Q5, _, _, _, _, by simp, by omega, rfl, rfl, rfl, HQ6, HVL.out, HG5.out⟩
            case measure => simp [intOf]; omega
          · replace HVH := hide (HVH.out rfl)
            clear HVL
            go_wp2
            go_roundw
            case rel => exact ⟨i + 1, Q5, _, _, _, _, by simp, by omega, rfl, rfl, rfl, HQ6, HVH.out, HG5.out⟩
            case measure => simp [intOf]; omega
        · obtain rfl : i = n := by omega
          have h1 : decide ((i : Int) < (i : Int)) = false := by simp
          have h1n : decide (i < i) = false := by simp
          have HWN := hide (show digW T i ≠ [] from fun z => by have := congrArg List.length z; rw [digW_len] at this; simp at this; have := HN0.out; omega)
          have HWD := hide (digW_dig T i)
          have HBY := hide (show bey = true ↔ 16777215 < digV (digW T i) 0 from ⟨HVB.out.hi, fun z => by
            cases bey
            · have := HVB.out.lo rfl; omega
            · rfl⟩)
          have HQL := hide (show 0 < Q.length ∧ Q.length ≤ 100000 from by
            have := HN0.out
            rw [HQE.out]
            unfold numL
            rw [List.length_append, digW_len]
            split <;> simp <;> omega)
          obtain ⟨gq, cq, eq⟩ := own_some HDG.out.bb HQL.out.1
          cases eq
          have HQB := hide HDG.out.bb
          have HTB := hide (txt_byte (neg := false) (digW_dig T i))
          rw [← HQE.out] at HTB
          have HRD := hide (fun (w4 w5 : World) (e : Ending) (T' : Nat → Int) (n' : Nat) (hp : FdPost w4 T' n' e w5) (h1 : n' = (hdT 16777215 1 ++ (Q ++ [32, 48, 10])).length) (h2 : Lies T' n' 0 (hdT 16777215 1 ++ (Q ++ [32, 48, 10]))) => dim_res (neg := false) hp (by rw [h1, HQE.out]) (by rw [HQE.out] at h2; exact h2) HWN.out HWD.out HBY.out)
          have HRP := hide (fun (w4 w5 : World) (e : Ending) (T' : Nat → Int) (n' : Nat) (hp : PdPost w4 T' n' e w5) (h1 : n' = (Q ++ [32, 48, 10]).length) (h2 : Lies T' n' 0 (Q ++ [32, 48, 10])) => drat_res (neg := false) hp (by rw [h1, HQE.out]) (by rw [HQE.out] at h2; exact h2) HWN.out HWD.out HBY.out)
          clear HQE HVB HBY HWN HWD HDG HG1 HLW
          go_wp2_with fail
          refine (oneClauseText_any wr L0 gq c2 Q HQB.out HQL.out.1 (by have := HQL.out.2; omega)).mono ?_
          rintro e w5 ⟨a5, c5, rfl, hb5, bl5⟩
          have HL5 := hide (show (hdT 16777215 1 ++ (Q ++ [32, 48, 10])).length ≤ 1000000 from by rw [List.length_append, List.length_append]; have := hdT_len; have := HQL.out.2; simp only [List.length_cons, List.length_nil]; omega)
          have HB5 := hide (bb_bt hb5 (fun x hx => by
            rcases List.mem_append.1 hx with e | e
            · exact hdT_byte _ _ x e
            · exact HTB.out x e))
          have HBL5 := hide (lec HBB2.out bl5)
          have HQ5 := hide (HQB.out.below bl5)
          have HRD2 := hide (fun (w5' : World) (e : Ending) (hp : FdPost w5 (fun i => (hdT 16777215 1 ++ (Q ++ [32, 48, 10])).getD i 0) (hdT 16777215 1 ++ (Q ++ [32, 48, 10])).length e w5') => HRD.out w5 w5' e _ _ hp rfl lies_of)
          clear hb5 bl5 HQB HBB2 HRD
          generalize hdT 16777215 1 ++ (Q ++ [32, 48, 10]) = TT at *
          go_wp2_with fail
          refine (parseDimacs_any _ a5 TT.length c5 (fun i => TT.getD i 0) HB5.out HL5.out).mono ?_
          rintro e w6 hp6
          obtain ⟨bl6, pv1, er1, ln1, col1, rfl, hy1, hn1'⟩ := HRD2.out w6 e hp6
          have HBL6 := hide (lec HBL5.out bl6)
          have HQ6 := hide (HQ5.out.below bl6)
          have HY1 := hide hy1
          have HN1 := hide hn1'
          clear bl6 hp6 hy1 hn1' HRD2 HB5 HQ5 HBL5 HL5
          unfold faV
          go_upto_region 17 with fail
          have HX := hide (cells3 (w := w6) (x := er1) (y := ln1) (z := col1))
          have HBL7 := hide (lec HBL6.out (be1 w6 (.cells #[.int .i64 er1, .int .i64 ln1, .int .i64 col1] 32)))
          have HQ7 := hide (HQ6.out.below (be1 w6 (.cells #[.int .i64 er1, .int .i64 ln1, .int .i64 col1] 32)))
          clear HBL6 HQ6
          generalize w6.alloc (.cells #[.int .i64 er1, .int .i64 ln1, .int .i64 col1] 32) = w7 at *
          generalize w6.heap.size = x1 at *
          go_wp2_with fail
          refine (oneStepText_any w7 L0 gq c2 Q HQ7.out HQL.out.1 (by have := HQL.out.2; omega)).mono ?_
          rintro e w8 ⟨a8, c8, rfl, hb8, bl8⟩
          have HL8 := hide (show (Q ++ [32, 48, 10]).length ≤ 1000000 from by rw [List.length_append]; have := HQL.out.2; simp only [List.length_cons, List.length_nil]; omega)
          have HB8 := hide (bb_bt hb8 HTB.out)
          have HBL8 := hide (lec HBL7.out bl8)
          have HX8 := hide (show w8.cell? ⟨x1, 0, none⟩ = some (.int .i64 er1) ∧ w8.cell? ⟨x1, 1, none⟩ = some (.int .i64 ln1) ∧ w8.cell? ⟨x1, 2, none⟩ = some (.int .i64 col1) from ⟨cellKeep bl8 HX.out.1, cellKeep bl8 HX.out.2.1, cellKeep bl8 HX.out.2.2⟩)
          have HRP2 := hide (fun (w5' : World) (e : Ending) (hp : PdPost w8 (fun i => (Q ++ [32, 48, 10]).getD i 0) (Q ++ [32, 48, 10]).length e w5') => HRP.out w8 w5' e _ _ hp rfl lies_of)
          clear hb8 bl8 HQ7 HBL7 HRP HX HTB
          generalize Q ++ [32, 48, 10] = TQ at *
          go_wp2_with fail
          refine (parseDrat_any _ a8 TQ.length c8 (fun i => TQ.getD i 0) HB8.out HL8.out).mono ?_
          rintro e w9 hp9
          obtain ⟨bl9, pv2, er2, ln2, col2, rfl, hy2, hn2'⟩ := HRP2.out w9 e hp9
          have HBL9 := hide (lec HBL8.out bl9)
          have HX9 := hide (show w9.cell? ⟨x1, 0, none⟩ = some (.int .i64 er1) ∧ w9.cell? ⟨x1, 1, none⟩ = some (.int .i64 ln1) ∧ w9.cell? ⟨x1, 2, none⟩ = some (.int .i64 col1) from ⟨cellKeep bl9 HX8.out.1, cellKeep bl9 HX8.out.2.1, cellKeep bl9 HX8.out.2.2⟩)
          have HY2 := hide hy2
          have HN2 := hide hn2'
          clear bl9 hp9 hy2 hn2' HRP2 HB8 HBL8 HL8 HX8
          unfold faV
          go_upto_region 18 with fail
          have HZ := hide (cells3 (w := w9) (x := er2) (y := ln2) (z := col2))
          have HBL := hide (lec HBL9.out (be1 w9 (.cells #[.int .i64 er2, .int .i64 ln2, .int .i64 col2] 32)))
          have HXx := hide (show (w9.alloc (.cells #[.int .i64 er2, .int .i64 ln2, .int .i64 col2] 32)).cell? ⟨x1, 0, none⟩ = some (.int .i64 er1) ∧ (w9.alloc (.cells #[.int .i64 er2, .int .i64 ln2, .int .i64 col2] 32)).cell? ⟨x1, 1, none⟩ = some (.int .i64 ln1) ∧ (w9.alloc (.cells #[.int .i64 er2, .int .i64 ln2, .int .i64 col2] 32)).cell? ⟨x1, 2, none⟩ = some (.int .i64 col1) from ⟨cellKeep (be1 w9 _) HX9.out.1, cellKeep (be1 w9 _) HX9.out.2.1, cellKeep (be1 w9 _) HX9.out.2.2⟩)
          clear HX9 HBL9
          generalize w9.alloc (.cells #[.int .i64 er2, .int .i64 ln2, .int .i64 col2] 32) = w10 at *
          generalize w9.heap.size = x2 at *
          obtain ⟨p1, p2, p3⟩ := HXx.out
          obtain ⟨q1, q2, q3⟩ := HZ.out
          clear HXx HZ
          cases bey
          · have hne1 : (er1 != 2) = true := by simpa using HN1.out rfl
            have hne2 : (er2 != 2) = true := by simpa using HN2.out rfl
            go_wp2
            go_ret
            exact ⟨rfl, HBL.out⟩
          · obtain ⟨rfl, rfl, rfl, rfl⟩ := HY1.out rfl
            obtain ⟨rfl, rfl, rfl, rfl⟩ := HY2.out rfl
            go_wp2
            go_ret
            exact ⟨rfl, HBL.out⟩
    · obtain ⟨X0, hX0⟩ : ∃ X0 : List Int, [] = X0 := ⟨_, rfl⟩
      have HE0 := hide hX0.symm
      have HXL := hide (show X0.length ≤ 10 by rw [← hX0]; simp)
      have HBB := hide (show BB w1 L0 (.slice (some ⟨L0, 0, none⟩) X0.length 0) X0 from by rw [← hX0]; exact HLW.out)
      have HBS := hide (show L0 ≤ w1.heap.size from by have := HB1.out.size; have := HL0.out; omega)
      rw [show Value.slice (some ⟨L0, 0, none⟩) 0 0 = Value.slice (some ⟨L0, 0, none⟩) X0.length 0 from by rw [← hX0]; rfl]
      clear hX0
      have HZw2 := hide (show BB (w1.alloc (.cells #[.int .u8 45] 5)) L0 (.slice (some ⟨L0, 0, none⟩) X0.length 0) (X0) from BB.below HBB.out (be1 w1 _))
      have HSw2 := hide (show L0 ≤ (w1.alloc (.cells #[.int .u8 45] 5)).heap.size from Nat.le_trans HBS.out (be1 w1 _).size)
      have HNw2 := hide (show ∀ (j : Nat) (u : Value), ([.int .u8 45] : List Value)[j]? = some u → (w1.alloc (.cells #[.int .u8 45] 5)).cell? ((⟨w1.heap.size, 0, none⟩ : Addr).add j) = some u from fun j u hj => new_cells w1 [.int .u8 45] 5 j u hj)
      go_upto_region 6 with (at_builtin; go_loud (refine wpList_append_lies _ rfl (.tmp 19) (.tmp 20) 26 rfl L0 5 i0 _ 1 1 Try.underlying26 HI.out.1 HI.out.2.1 HI.out.2.2.1 HI.out.2.2.2 rfl (by decide) (.slice (some ⟨L0, 0, none⟩) X0.length 0) (X0).length ((X0).map (Value.int .u8)) rfl HZw2.out ⟨w1.heap.size, 0, none⟩ 1 1 [.int .u8 45] rfl rfl HNw2.out (fun u hu => by simp at hu; (first | (subst hu; rfl) | (rcases hu with hu | hu <;> (subst hu; rfl)))) (by decide) (by have := HXL.out; unfold maxLen; omega) (by have := HXL.out; omega) HSw2.out _ rfl ?_; intro gw2 capw2 w2 hr hg hat hlt2; have HPw2 := hide (bg_app (Z := [45]) HBB.out hr hg hat); clear hr hg hat hlt2 HZw2 HSw2 HNw2))
      obtain ⟨X1, hQw2⟩ : ∃ X1, (X0) ++ [45] = X1 := ⟨_, rfl⟩
      have HQw2 := hide hQw2.symm
      rw [hQw2] at HPw2
      rw [show (X0).length + 1 = X1.length from by rw [← hQw2]; simp only [List.length_append, List.length_cons, List.length_nil]]
      clear hQw2
      have HG1 := hide (show BG w1 L0 (.slice (some ⟨L0, 0, none⟩) 0 0) w2 (.slice (some ⟨gw2, 0, none⟩) X1.length capw2) (numL true []) from by
        have h1 := HPw2.out
        have h2 : X1 = numL true [] := by rw [HQw2.out, HE0.out]; rfl
        have h3 : X0.length = 0 := by rw [HE0.out]; rfl
        rw [h3] at h1
        rw [h2] at h1 ⊢
        exact h1)
      have hX1 : X1 = numL true [] := by rw [HQw2.out, HE0.out]; rfl
      subst hX1
      clear HPw2 HQw2 HBB HBS HE0 HXL
      go_wp2
      go_loopw [5, 6, 7, 9, 24] (fun s5 s6 s7 _ s24 wx => ∃ (i : Nat) (Q : List Int) (a2 : Option Addr) (c2 : Nat) (bey : Bool) (val : Int), s24 = .int .i64 i ∧ i ≤ n ∧ s5 = .slice a2 Q.length c2 ∧ s6 = .bool bey ∧ s7 = .int .i64 val ∧ Hid (Q = numL true (digW T i)) ∧ Vb T i bey val ∧ BG w1 L0 (.slice (some ⟨L0, 0, none⟩) 0 0) wx (.slice a2 Q.length c2) Q) (fun _ _ _ _ s24 _ => n - (intOf s24).toNat)
      case atStart => exact ⟨0, numL true [], _, _, false, 0, rfl, Nat.zero_le _, rfl, rfl, rfl, hide rfl, vb0 T, HG1.out⟩
      case round =>
        obtain ⟨i, Q, a2, c2, bey, val, rfl, hi, rfl, rfl, rfl, HQE, hvb, hbg⟩ := hrel
        have HVB := hide hvb
        have HDG := hide hbg
        have HBB2 := hide (show Below w.heap.size w wr from HB1.out.trans (hbg.ex.below HB1.out.size (fun k hk z => by have e : L0 = k := Option.some.inj z; have := HL0.out; omega)))
        clear hvb hbg
        by_cases hlt : i < n
        · have HDB := hide HDG.out.bb
          have HBSD := hide (show L0 ≤ wr.heap.size from by have := HBB2.out.size; have := HL0.out; omega)
          have HQL := hide (show Q.length ≤ 70000 from by rw [HQE.out]; unfold numL; rw [List.length_append, digW_len]; split <;> simp <;> omega)
          obtain ⟨g, o, ea, hc, hb0, hb1⟩ := (HBT.out.below HBB2.out) i hlt
          cases ea
          have HQ5' := hide (show Q ++ [48 + T i % 10] = numL true (digW T (i + 1)) by rw [HQE.out, digW_succ]; unfold numL; rw [List.append_assoc])
          have HVL := hide (show bey = false → Vb T (i + 1) (decide (16777215 < val * 10 + T i % 10)) (val * 10 + T i % 10) from fun z => by subst z; exact vb_lo HVB.out)
          have HVH := hide (show bey = true → Vb T (i + 1) true val from fun z => by subst z; exact vb_hi HVB.out)
          obtain ⟨b, hb⟩ : ∃ b, T i = b := ⟨_, rfl⟩
          rw [hb] at hc hb0 hb1 HQ5' HVL
          have HBE := hide hb
          clear hb
          have hrg := HVB.out.rg
          have h1 : decide ((i : Int) < (n : Int)) = true := by simp; omega
          have h1n : decide (i < n) = true := by simp; omega
          have h2 : decide ((i : Int) < 0) = false := by simp
          have h3 : (i : Int) < (n : Int) := by omega
          have h4 : IntKind.i64.wrap ((i : Int) + 1) = (i : Int) + 1 := by rw [IntKind.wrap_i64]; omega
          have m1 : Int.tmod b 10 = b % 10 := Int.tmod_eq_emod_of_nonneg hb0
          have m2 : IntKind.u8.wrap (b % 10) = b % 10 := by rw [IntKind.wrap_u8]; omega
          have m3 : IntKind.u8.wrap (48 + b % 10) = 48 + b % 10 := by rw [IntKind.wrap_u8]; omega
          have m4 : IntKind.i64.wrap (val * 10) = val * 10 := by rw [IntKind.wrap_i64]; omega
          have m5 : IntKind.i64.wrap (b % 10) = b % 10 := by rw [IntKind.wrap_i64]; omega
          have m6 : IntKind.i64.wrap (val * 10 + b % 10) = val * 10 + b % 10 := by rw [IntKind.wrap_i64]; omega
          have HZw5 := hide (show BB (wr.alloc (.cells #[.int .u8 (48 + b % 10)] 5)) L0 (.slice a2 Q.length c2) (Q) from BB.below HDB.out (be1 wr _))
          have HSw5 := hide (show L0 ≤ (wr.alloc (.cells #[.int .u8 (48 + b % 10)] 5)).heap.size from Nat.le_trans HBSD.out (be1 wr _).size)
          have HNw5 := hide (show ∀ (j : Nat) (u : Value), ([.int .u8 (48 + b % 10)] : List Value)[j]? = some u → (wr.alloc (.cells #[.int .u8 (48 + b % 10)] 5)).cell? ((⟨wr.heap.size, 0, none⟩ : Addr).add j) = some u from fun j u hj => new_cells wr [.int .u8 (48 + b % 10)] 5 j u hj)
          go_upto_region 12 with (at_builtin; go_loud (refine wpList_append_lies _ rfl (.tmp 28) (.tmp 32) 26 rfl L0 5 i0 _ 1 1 Try.underlying26 HI.out.1 HI.out.2.1 HI.out.2.2.1 HI.out.2.2.2 rfl (by decide) (.slice a2 Q.length c2) (Q).length ((Q).map (Value.int .u8)) rfl HZw5.out ⟨wr.heap.size, 0, none⟩ 1 1 [.int .u8 (48 + b % 10)] rfl rfl HNw5.out (fun u hu => by simp at hu; (first | (subst hu; rfl) | (rcases hu with hu | hu <;> (subst hu; rfl)))) (by decide) (by have := HQL.out; unfold maxLen; omega) (by have := HQL.out; omega) HSw5.out _ rfl ?_; intro gw5 capw5 w5 hr hg hat hlt2; have HPw5 := hide (bg_app (Z := [48 + b % 10]) HDB.out hr hg hat); clear hr hg hat hlt2 HZw5 HSw5 HNw5))
          obtain ⟨Q5, hQw5⟩ : ∃ Q5, (Q) ++ [48 + b % 10] = Q5 := ⟨_, rfl⟩
          have HQw5 := hide hQw5.symm
          rw [hQw5] at HPw5
          rw [show (Q).length + 1 = Q5.length from by rw [← hQw5]; simp only [List.length_append, List.length_cons, List.length_nil]]
          clear hQw5
          have HG5 := hide (HDG.out.trans HPw5.out)
          have HQ6 := hide (show Q5 = numL true (digW T (i + 1)) from by rw [HQw5.out]; exact HQ5'.out)
          clear HPw5 HQw5 HDG HDB HBSD HQL hc HQE HVB HQ5'
          cases bey
          · replace HVL := hide (HVL.out rfl)
            clear HVH
            go_wp2
            go_roundw
            case rel => exact ⟨i + 1, Q5, _, _, _, _, by simp, by omega, rfl, rfl, rfl, HQ6, HVL.out, HG5.out⟩
            case measure => simp [intOf]; omega
          · replace HVH := hide (HVH.out rfl)
            clear HVL
            go_wp2
            go_roundw
            case rel => exact ⟨i + 1, Q5, _, _, _, _, by simp, by omega, rfl, rfl, rfl, HQ6, HVH.out, HG5.out⟩
            case measure => simp [intOf]; omega
        · obtain rfl : i = n := by omega
          have h1 : decide ((i : Int) < (i : Int)) = false := by simp
          have h1n : decide (i < i) = false := by simp
          have HWN := hide (show digW T i ≠ [] from fun z => by have := congrArg List.length z; rw [digW_len] at this; simp at this; have := HN0.out; omega)
          have HWD := hide (digW_dig T i)
          have HBY := hide (show bey = true ↔ 16777215 < digV (digW T i) 0 from ⟨HVB.out.hi, fun z => by
            cases bey
            · have := HVB.out.lo rfl; omega
            · rfl⟩)
          have HQL := hide (show 0 < Q.length ∧ Q.length ≤ 100000 from by
            have := HN0.out
            rw [HQE.out]
            unfold numL
            rw [List.length_append, digW_len]
            split <;> simp <;> omega)
          obtain ⟨gq, cq, eq⟩ := own_some HDG.out.bb HQL.out.1
          cases eq
          have HQB := hide HDG.out.bb
          have HTB := hide (txt_byte (neg := true) (digW_dig T i))
          rw [← HQE.out] at HTB
          have HRD := hide (fun (w4 w5 : World) (e : Ending) (T' : Nat → Int) (n' : Nat) (hp : FdPost w4 T' n' e w5) (h1 : n' = (hdT 16777215 1 ++ (Q ++ [32, 48, 10])).length) (h2 : Lies T' n' 0 (hdT 16777215 1 ++ (Q ++ [32, 48, 10]))) => dim_res (neg := true) hp (by rw [h1, HQE.out]) (by rw [HQE.out] at h2; exact h2) HWN.out HWD.out HBY.out)
          have HRP := hide (fun (w4 w5 : World) (e : Ending) (T' : Nat → Int) (n' : Nat) (hp : PdPost w4 T' n' e w5) (h1 : n' = (Q ++ [32, 48, 10]).length) (h2 : Lies T' n' 0 (Q ++ [32, 48, 10])) => drat_res (neg := true) hp (by rw [h1, HQE.out]) (by rw [HQE.out] at h2; exact h2) HWN.out HWD.out HBY.out)
          clear HQE HVB HBY HWN HWD HDG HG1 HLW
          go_wp2_with fail
          refine (oneClauseText_any wr L0 gq c2 Q HQB.out HQL.out.1 (by have := HQL.out.2; omega)).mono ?_
          rintro e w5 ⟨a5, c5, rfl, hb5, bl5⟩
          have HL5 := hide (show (hdT 16777215 1 ++ (Q ++ [32, 48, 10])).length ≤ 1000000 from by rw [List.length_append, List.length_append]; have := hdT_len; have := HQL.out.2; simp only [List.length_cons, List.length_nil]; omega)
          have HB5 := hide (bb_bt hb5 (fun x hx => by
            rcases List.mem_append.1 hx with e | e
            · exact hdT_byte _ _ x e
            · exact HTB.out x e))
          have HBL5 := hide (lec HBB2.out bl5)
          have HQ5 := hide (HQB.out.below bl5)
          have HRD2 := hide (fun (w5' : World) (e : Ending) (hp : FdPost w5 (fun i => (hdT 16777215 1 ++ (Q ++ [32, 48, 10])).getD i 0) (hdT 16777215 1 ++ (Q ++ [32, 48, 10])).length e w5') => HRD.out w5 w5' e _ _ hp rfl lies_of)
          clear hb5 bl5 HQB HBB2 HRD
          generalize hdT 16777215 1 ++ (Q ++ [32, 48, 10]) = TT at *
          go_wp2_with fail
          refine (parseDimacs_any _ a5 TT.length c5 (fun i => TT.getD i 0) HB5.out HL5.out).mono ?_
          rintro e w6 hp6
          obtain ⟨bl6, pv1, er1, ln1, col1, rfl, hy1, hn1'⟩ := HRD2.out w6 e hp6
          have HBL6 := hide (lec HBL5.out bl6)
          have HQ6 := hide (HQ5.out.below bl6)
          have HY1 := hide hy1
          have HN1 := hide hn1'
          clear bl6 hp6 hy1 hn1' HRD2 HB5 HQ5 HBL5 HL5
          unfold faV
          go_upto_region 17 with fail
          have HX := hide (cells3 (w := w6) (x := er1) (y := ln1) (z := col1))
          have HBL7 := hide (lec HBL6.out (be1 w6 (.cells #[.int .i64 er1, .int .i64 ln1, .int .i64 col1] 32)))
          have HQ7 := hide (HQ6.out.below (be1 w6 (.cells #[.int .i64 er1, .int .i64 ln1, .int .i64 col1] 32)))
          clear HBL6 HQ6
          generalize w6.alloc (.cells #[.int .i64 er1, .int .i64 ln1, .int .i64 col1] 32) = w7 at *
          generalize w6.heap.size = x1 at *
          go_wp2_with fail
          refine (oneStepText_any w7 L0 gq c2 Q HQ7.out HQL.out.1 (by have := HQL.out.2; omega)).mono ?_
          rintro e w8 ⟨a8, c8, rfl, hb8, bl8⟩
          have HL8 := hide (show (Q ++ [32, 48, 10]).length ≤ 1000000 from by rw [List.length_append]; have := HQL.out.2; simp only [List.length_cons, List.length_nil]; omega)
          have HB8 := hide (bb_bt hb8 HTB.out)
          have HBL8 := hide (lec HBL7.out bl8)
          have HX8 := hide (show w8.cell? ⟨x1, 0, none⟩ = some (.int .i64 er1) ∧ w8.cell? ⟨x1, 1, none⟩ = some (.int .i64 ln1) ∧ w8.cell? ⟨x1, 2, none⟩ = some (.int .i64 col1) from ⟨cellKeep bl8 HX.out.1, cellKeep bl8 HX.out.2.1, cellKeep bl8 HX.out.2.2⟩)
          have HRP2 := hide (fun (w5' : World) (e : Ending) (hp : PdPost w8 (fun i => (Q ++ [32, 48, 10]).getD i 0) (Q ++ [32, 48, 10]).length e w5') => HRP.out w8 w5' e _ _ hp rfl lies_of)
          clear hb8 bl8 HQ7 HBL7 HRP HX HTB
          generalize Q ++ [32, 48, 10] = TQ at *
          go_wp2_with fail
          refine (parseDrat_any _ a8 TQ.length c8 (fun i => TQ.getD i 0) HB8.out HL8.out).mono ?_
          rintro e w9 hp9
          obtain ⟨bl9, pv2, er2, ln2, col2, rfl, hy2, hn2'⟩ := HRP2.out w9 e hp9
          have HBL9 := hide (lec HBL8.out bl9)
          have HX9 := hide (show w9.cell? ⟨x1, 0, none⟩ = some (.int .i64 er1) ∧ w9.cell? ⟨x1, 1, none⟩ = some (.int .i64 ln1) ∧ w9.cell? ⟨x1, 2, none⟩ = some (.int .i64 col1) from ⟨cellKeep bl9 HX8.out.1, cellKeep bl9 HX8.out.2.1, cellKeep bl9 HX8.out.2.2⟩)
          have HY2 := hide hy2
          have HN2 := hide hn2'
          clear bl9 hp9 hy2 hn2' HRP2 HB8 HBL8 HL8 HX8
          unfold faV
          go_upto_region 18 with fail
          have HZ := hide (cells3 (w := w9) (x := er2) (y := ln2) (z := col2))
          have HBL := hide (lec HBL9.out (be1 w9 (.cells #[.int .i64 er2, .int .i64 ln2, .int .i64 col2] 32)))
          have HXx := hide (show (w9.alloc (.cells #[.int .i64 er2, .int .i64 ln2, .int .i64 col2] 32)).cell? ⟨x1, 0, none⟩ = some (.int .i64 er1) ∧ (w9.alloc (.cells #[.int .i64 er2, .int .i64 ln2, .int .i64 col2] 32)).cell? ⟨x1, 1, none⟩ = some (.int .i64 ln1) ∧ (w9.alloc (.cells #[.int .i64 er2, .int .i64 ln2, .int .i64 col2] 32)).cell? ⟨x1, 2, none⟩ = some (.int .i64 col1) from ⟨cellKeep (be1 w9 _) HX9.out.1, cellKeep (be1 w9 _) HX9.out.2.1, cellKeep (be1 w9 _) HX9.out.2.2⟩)
          clear HX9 HBL9
          generalize w9.alloc (.cells #[.int .i64 er2, .int .i64 ln2, .int .i64 col2] 32) = w10 at *
          generalize w9.heap.size = x2 at *
          obtain ⟨p1, p2, p3⟩ := HXx.out
          obtain ⟨q1, q2, q3⟩ := HZ.out
          clear HXx HZ
          cases bey
          · have hne1 : (er1 != 2) = true := by simpa using HN1.out rfl
            have hne2 : (er2 != 2) = true := by simpa using HN2.out rfl
            go_wp2
            go_ret
            exact ⟨rfl, HBL.out⟩
          · obtain ⟨rfl, rfl, rfl, rfl⟩ := HY1.out rfl
            obtain ⟨rfl, rfl, rfl, rfl⟩ := HY2.out rfl
            go_wp2
            go_ret
            exact ⟨rfl, HBL.out⟩
end Go.Proofs.Qxb6500773a
