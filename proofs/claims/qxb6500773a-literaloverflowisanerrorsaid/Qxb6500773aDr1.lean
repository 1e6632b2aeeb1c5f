import Derived.Test.Qxb6500773aDr0
import Derived.Test.Qxb6500773aPr6
import Derived.Test.Qxb6500773aPl2
namespace Go.Proofs.Qxb6500773a
open Go.RowKit

/-- The bytes of a printed text. -/
theorem drT_byte (L E : List Int) (D : List Bool) (k : Nat) : ∀ x ∈ drT L E D k, 0 ≤ x ∧ x < 256 := fun x hx => by
  obtain ⟨i, -, hi⟩ := List.mem_flatMap.1 hx
  unfold stT clT at hi
  rcases List.mem_append.1 hi with e | e
  · split at e
    · simp at e; omega
    · cases e
  · rcases List.mem_append.1 e with e | e
    · obtain ⟨l, -, hl⟩ := List.mem_flatMap.1 e
      rcases List.mem_append.1 hl with e | e
      · exact ⟨(decI_nosp x e).2.2.2.1, (decI_nosp x e).2.2.2.2⟩
      · simp at e; omega
    · simp at e; omega
theorem bb_bt {w : World} {B : Nat} {a : Option Addr} {c : Nat} {Y : List Int} (h : BB w B (.slice a Y.length c) Y) (hb : ∀ x ∈ Y, 0 ≤ x ∧ x < 256) : BT w a Y.length (fun i => Y.getD i 0) := fun i hi => by
  have e1 := List.getElem?_eq_getElem hi
  obtain ⟨g, c', e, hc, -⟩ := row_cell h (i := i) (u := .int .u8 (Y.getD i 0)) (by rw [List.getElem?_map, e1, List.getD_eq_getElem?_getD, e1]; rfl)
  cases e
  have := hb (Y.getD i 0) (by rw [List.getD_eq_getElem?_getD, e1]; exact List.getElem_mem hi)
  exact ⟨g, 0, rfl, by rw [Nat.zero_add]; exact hc, this.1, this.2⟩
set_option linter.unusedSimpArgs false in
set_option maxRecDepth 100000 in
set_option maxHeartbeats 4000000 in
/-- cnflaw.proofComesBack -/
theorem pfBack_any (w : World) (B b : Nat) (va ve vd : Value) (st : DSt) (m : Nat) (hm : m ≤ 65536) (hp : PF w B b va ve vd st.L st.E st.D) (hok : DOk m st) (hd : ∃ T' n', dStep T' n' st = .done) :
    Calls Try.prog 10 #[.pointer (some ⟨b, 0, none⟩)] w (SaPost w true) := by
  have HP := hide hp
  have HOK := hide hok
  have HD := hide hd
  have hll : st.L.length + st.E.length ≤ 65536 := by have := hok.len; have := hok.pl.off; omega
  have HLL := hide hll
  have hlen : (drT st.L st.E st.D st.E.length).length ≤ 1000000 := by
    have h1 := drT_len st.D hok.eok hok.lit st.E.length (Nat.le_refl _)
    have h2 := loP_le hok.eok (Nat.le_refl st.E.length)
    omega
  have HLE := hide hlen
  have cp := hide (printDrat_any w B b va ve vd st.L st.E st.D hp hok.eok hok.dl hok.lit (by omega))
  clear hp hok hd hll hlen
  have HBY := hide (drT_byte st.L st.E st.D st.E.length)
  have HBK := hide (fun (h : True) => drat_back (T := fun i => (drT st.L st.E st.D st.E.length).getD i 0) (n := (drT st.L st.E st.D st.E.length).length) HOK.out HD.out rfl (fun i x hx => by show (drT st.L st.E st.D st.E.length).getD i 0 = x; rw [List.getD_eq_getElem?_getD, hx]; rfl))
  generalize drT st.L st.E st.D st.E.length = Y at *
  go_enter Try.func10, Try.ntmps10
  go_wp2_with fail
  refine cp.out.mono ?_
  rintro e w3 ⟨a3, c3, rfl, hb3, b3⟩
  have HBT := hide (bb_bt hb3 HBY.out)
  have HB3 := hide b3
  clear hb3 b3 cp
  go_wp2_with fail
  refine (parseDrat_any _ a3 Y.length c3 (fun i => Y.getD i 0) HBT.out HLE.out).mono ?_
  rintro e w4 ⟨s4, hr4, hk4, b4, hcase⟩
  obtain ⟨s5, hr5, hd5, eL, eE, eD⟩ := HBK.out trivial
  rcases hcase with ⟨er, ln, col, hbad, -, -⟩ | ⟨hdone, b2, va2, ve2, vd2, rfl, hpf, -⟩
  · have e := hr4.det (fun x z => by rw [hbad] at z; cases z) hr5 (fun x z => by rw [hd5] at z; cases z)
    rw [e, hd5] at hbad
    cases hbad
  · have e := hr4.det (fun x z => by rw [hdone] at z; cases z) hr5 (fun x z => by rw [hd5] at z; cases z)
    rw [e, eL, eE, eD] at hpf
    have HB4 := hide (lec HB3.out b4)
    have HQ := hide hpf
    clear hr4 hk4 hr5 hd5 eL eE eD hdone e hpf b4 HBK HB3 HBT HBY
    unfold faV
    go_upto_region 2 with fail
    have x0 : (w4.alloc (.cells #[.int .i64 0, .int .i64 0, .int .i64 0] 32)).cell? ⟨w4.heap.size, 0, none⟩ = some (.int .i64 0) := by simp [go_sem]
    have HB5 := hide (lec HB4.out (be1 w4 (.cells #[.int .i64 0, .int .i64 0, .int .i64 0] 32)))
    replace HQ := hide (HQ.out.below (be1 w4 (.cells #[.int .i64 0, .int .i64 0, .int .i64 0] 32)))
    clear HB4
    generalize w4.alloc (.cells #[.int .i64 0, .int .i64 0, .int .i64 0] 32) = w5 at *
    go_wp2_with fail
    refine (sameProof_any _ B b _ b2 va ve vd va2 ve2 vd2 st.L st.E st.D (HP.out.below HB5.out) HQ.out HOK.out.eok HOK.out.dl HOK.out.lit (by have := HLL.out; omega) (by have := HLL.out; omega)).mono ?_
    rintro e w6 ⟨rfl, b6⟩
    have HB6 := hide (lec HB5.out b6)
    replace HQ := hide (HQ.out.below b6)
    clear b6 HB5
    go_wp2_with fail
    refine (pfEqual_any _ B b _ b2 va ve vd va2 ve2 vd2 st.L st.E st.D (HP.out.below HB6.out) HQ.out HOK.out.dl (by have := HLL.out; omega) (by have := HLL.out; omega)).mono ?_
    rintro e w7 ⟨rfl, b7⟩
    have HB7 := hide (lec HB6.out b7)
    clear b7 HB6
    go_wp2
    go_ret
    exact ⟨rfl, HB7.out⟩
set_option linter.unusedSimpArgs false in
set_option maxRecDepth 100000 in
set_option maxHeartbeats 4000000 in
/-- cnflaw.DratRoundTrip -/
theorem dratRoundTrip_walk (w : World) (a : Option Addr) (len cap : Nat) (f : Nat → OpV) (hn : len ≤ 9223372036854775807) (hops : OpsAt w a len f) :
    Calls Try.prog 4 #[.slice a len cap] w fun e w' => e = .returned (.bool true) ∧ Below w.heap.size w w' := by
  have HO := hide hops
  have cs := small_any w a len cap f hops hn
  clear hops
  go_enter Try.func4, Try.ntmps4
  go_wp2_with fail
  refine cs.mono ?_
  rintro e w' ⟨sb, rfl, hw, hsm⟩
  rw [hw]
  clear hw w' cs
  cases sb
  · go_wp2
    go_ret
    exact ⟨rfl, Below.refl _ _⟩
  · obtain ⟨hl, hsm⟩ := hsm rfl
    have HS := hide hsm
    clear hsm
    go_wp2
    go_loopw [4, 5, 6, 12] (fun _ _ _ s12 wx => ∃ (i : Nat), s12 = .int .i64 i ∧ i ≤ len ∧ Below w.heap.size w wx) (fun _ _ _ s12 _ => len - (intOf s12).toNat)
    case atStart => exact ⟨0, rfl, Nat.zero_le _, Below.refl _ _⟩
    case round =>
      obtain ⟨i, rfl, hi, hb⟩ := hrel
      have HB := hide hb
      clear hb
      by_cases hlt : i < len
      · obtain ⟨b, off, ea, hop⟩ := (HO.out.below HB.out) i hlt
        cases ea
        have HT := hide (HS.out i hlt).2
        have HOP := hide hop
        have c0 := hop.c0
        have c1 := hop.c1
        have c2 := hop.c2
        have c3 := hop.c3
        clear hop
        generalize f i = v at c0 c1 c2 c3 HT HOP
        obtain ⟨kd, av, la, ln, lc, X, ta, tn, tc, T⟩ := v
        dsimp only at c0 c1 c2 c3 HT HOP
        have h1 : decide ((i : Int) < (len : Int)) = true := by simp; omega
        have h1n : decide (i < len) = true := by simp; omega
        have h2 : decide ((i : Int) < 0) = false := by simp
        have h3 : (i : Int) < (len : Int) := by omega
        have h4 : IntKind.i64.wrap ((i : Int) + 1) = (i : Int) + 1 := by rw [IntKind.wrap_i64]; omega
        go_upto_region 6 with fail
        have x3 : (wr.alloc (.cells #[.int .i64 kd, .int .i64 av, .slice la ln lc, .slice ta tn tc] 28)).cell? ⟨wr.heap.size, 3, none⟩ = some (.slice ta tn tc) := by simp [go_sem]
        have HBT := hide (HOP.out.bt.below (be1 wr (.cells #[.int .i64 kd, .int .i64 av, .slice la ln lc, .slice ta tn tc] 28)))
        replace HB := hide (lec HB.out (be1 wr (.cells #[.int .i64 kd, .int .i64 av, .slice la ln lc, .slice ta tn tc] 28)))
        clear c0 c1 c2 c3 HOP
        generalize wr.alloc (.cells #[.int .i64 kd, .int .i64 av, .slice la ln lc, .slice ta tn tc] 28) = w1 at *
        generalize wr.heap.size = x at *
        go_wp2_with fail
        refine (parseDrat_any _ ta tn tc T HBT.out (by have := HT.out; omega)).mono ?_
        rintro e w4 ⟨st, hr4, hk4, b4, hcase⟩
        replace HB := hide (lec HB.out b4)
        clear b4 x3
        rcases hcase with ⟨er, ln, col, hbad, her, rfl⟩ | ⟨hdone, b2, va2, ve2, vd2, rfl, hpf, -⟩
        · unfold faV
          have heb : (er == 0) = false := by simpa using her
          have hen : (er != 0) = true := by simpa using her
          clear hr4 hk4 hbad her
          go_upto_region 7 with fail
          have x0 : (w4.alloc (.cells #[.int .i64 er, .int .i64 ln, .int .i64 col] 32)).cell? ⟨w4.heap.size, 0, none⟩ = some (.int .i64 er) := by simp [go_sem]
          have HB5 := hide (lec HB.out (be1 w4 (.cells #[.int .i64 er, .int .i64 ln, .int .i64 col] 32)))
          clear HB
          generalize w4.alloc (.cells #[.int .i64 er, .int .i64 ln, .int .i64 col] 32) = w5 at *
          go_wp2
          go_roundw
          case rel => exact ⟨i + 1, by simp, by omega, HB5.out⟩
          case measure => simp [intOf]; omega
        · unfold faV
          have HK := hide hk4
          have HD := hide (show ∃ T' n', dStep T' n' st = .done from ⟨_, _, hdone⟩)
          have HQ := hide hpf
          clear hr4 hk4 hdone hpf
          go_upto_region 7 with fail
          have x0 : (w4.alloc (.cells #[.int .i64 0, .int .i64 0, .int .i64 0] 32)).cell? ⟨w4.heap.size, 0, none⟩ = some (.int .i64 0) := by simp [go_sem]
          have HB5 := hide (lec HB.out (be1 w4 (.cells #[.int .i64 0, .int .i64 0, .int .i64 0] 32)))
          replace HQ := hide (HQ.out.below (be1 w4 (.cells #[.int .i64 0, .int .i64 0, .int .i64 0] 32)))
          clear HB
          generalize w4.alloc (.cells #[.int .i64 0, .int .i64 0, .int .i64 0] 32) = w5 at *
          go_wp2_with fail
          refine (pfBack_any _ _ b2 va2 ve2 vd2 st tn HT.out HQ.out HK.out HD.out).mono ?_
          rintro e w6 ⟨rfl, b6⟩
          have HB6 := hide (lec HB5.out b6)
          clear b6 HB5
          go_wp2
          go_roundw
          case rel => exact ⟨i + 1, by simp, by omega, HB6.out⟩
          case measure => simp [intOf]; omega
      · have h1 : decide ((i : Int) < (len : Int)) = false := by simp; omega
        have h1n : decide (i < len) = false := by simp; omega
        go_wp2
        go_ret
        exact ⟨rfl, HB.out⟩
end Go.Proofs.Qxb6500773a
