import Derived.Test.Qxb6500773aGreatDr0
import Derived.Test.Qxb6500773aGreatPr6
import Derived.Test.Qxb6500773aGreatPl2
namespace Go.Proofs.Qxb6500773aGreat
set_option maxRecDepth 100000
open Go.RowKit

/-- The bytes of a printed text. -/
theorem drT_byte (L E : List Int) (D : List Bool) (k : Nat) : ∀ x ∈ drT L E D k, 0 ≤ x ∧ x < 256 := fun x hx => by
  obtain ⟨i, -, hi⟩ := List.mem_flatMap.1 hx
  unfold stT clT at hi
  rcases List.mem_append.1 hi with e | e
  · split at e
    · simp at e; omega
    · cases e
  · rcases List.mem_append.1 e with e | e
    · obtain ⟨l, -, hl⟩ := List.mem_flatMap.1 e
      rcases List.mem_append.1 hl with e | e
      · exact ⟨(decI_nosp x e).2.2.2.1, (decI_nosp x e).2.2.2.2⟩
      · simp at e; omega
    · simp at e; omega
theorem bb_bt {w : World} {B : Nat} {a : Option Addr} {c : Nat} {Y : List Int} (h : BB w B (.slice a Y.length c) Y) (hb : ∀ x ∈ Y, 0 ≤ x ∧ x < 256) : BT w a Y.length (fun i => Y.getD i 0) := fun i hi => by
  have e1 := List.getElem?_eq_getElem hi
  obtain ⟨g, c', e, hc, -⟩ := row_cell h (i := i) (u := .int .u8 (Y.getD i 0)) (by rw [List.getElem?_map, e1, List.getD_eq_getElem?_getD, e1]; rfl)
  cases e
  have := hb (Y.getD i 0) (by rw [List.getD_eq_getElem?_getD, e1]; exact List.getElem_mem hi)
  exact ⟨g, 0, rfl, by rw [Nat.zero_add]; exact hc, this.1, this.2⟩
set_option linter.unusedSimpArgs false in
set_option maxRecDepth 100000 in
set_option maxHeartbeats 4000000 in
/-- cnflaw.proofComesBack -/
theorem pfBack_any (w : World) (B b : Nat) (va ve vd : Value) (st : DSt) (m : Nat) (hm : m ≤ 65536) (hp : PF w B b va ve vd st.L st.E st.D) (hok : DOk m st) (hd : ∃ T' n', dStep T' n' st = .done) :
    Calls Tryz.prog 13 #[.pointer (some ⟨b, 0, none⟩)] w (SaPost w true) := by
  have HP := hide hp
  have HOK := hide hok
  have HD := hide hd
  have hll : st.L.length + st.E.length ≤ 65536 := by have := hok.len; have := hok.pl.off; omega
  have HLL := hide hll
  have hlen : (drT st.L st.E st.D st.E.length).length ≤ 1000000 := by
    have h1 := drT_len st.D hok.eok hok.lit st.E.length (Nat.le_refl _)
    have h2 := loP_le hok.eok (Nat.le_refl st.E.length)
    omega
  have HLE := hide hlen
  have cp := hide (printDrat_any w B b va ve vd st.L st.E st.D hp hok.eok hok.dl hok.lit (by omega))
  clear hp hok hd hll hlen
  have HBY := hide (drT_byte st.L st.E st.D st.E.length)
  have HBK := hide (fun (h : True) => drat_back (T := fun i => (drT st.L st.E st.D st.E.length).getD i 0) (n := (drT st.L st.E st.D st.E.length).length) HOK.out HD.out rfl (fun i x hx => by show (drT st.L st.E st.D st.E.length).getD i 0 = x; rw [List.getD_eq_getElem?_getD, hx]; rfl))
  generalize drT st.L st.E st.D st.E.length = Y at *
  go_enter Tryz.func13, Tryz.ntmps13
  go_wp2_with fail
  refine cp.out.mono ?_
  rintro e w3 ⟨a3, c3, rfl, hb3, b3⟩
  have HBT := hide (bb_bt hb3 HBY.out)
  have HB3 := hide b3
  clear hb3 b3 cp
  go_wp2_with fail
  refine (parseDrat_any _ a3 Y.length c3 (fun i => Y.getD i 0) HBT.out HLE.out).mono ?_
  rintro e w4 ⟨s4, hr4, hk4, b4, hcase⟩
  obtain ⟨s5, hr5, hd5, eL, eE, eD⟩ := HBK.out trivial
  rcases hcase with ⟨er, ln, col, hbad, -, -⟩ | ⟨hdone, b2, va2, ve2, vd2, rfl, hpf, -⟩
  · have e := hr4.det (fun x z => by rw [hbad] at z; cases z) hr5 (fun x z => by rw [hd5] at z; cases z)
    rw [e, hd5] at hbad
    cases hbad
  · have e := hr4.det (fun x z => by rw [hdone] at z; cases z) hr5 (fun x z => by rw [hd5] at z; cases z)
    rw [e, eL, eE, eD] at hpf
    have HB4 := hide (lec HB3.out b4)
    have HQ := hide hpf
    clear hr4 hk4 hr5 hd5 eL eE eD hdone e hpf b4 HBK HB3 HBT HBY
    unfold faV
    go_upto_region 2 with fail
    have x0 : (w4.alloc (.cells #[.int .i64 0, .int .i64 0, .int .i64 0] 41)).cell? ⟨w4.heap.size, 0, none⟩ = some (.int .i64 0) := by simp [go_sem]
    have HB5 := hide (lec HB4.out (be1 w4 (.cells #[.int .i64 0, .int .i64 0, .int .i64 0] 41)))
    replace HQ := hide (HQ.out.below (be1 w4 (.cells #[.int .i64 0, .int .i64 0, .int .i64 0] 41)))
    clear HB4
    generalize w4.alloc (.cells #[.int .i64 0, .int .i64 0, .int .i64 0] 41) = w5 at *
    go_wp2_with fail
    refine (sameProof_any _ B b _ b2 va ve vd va2 ve2 vd2 st.L st.E st.D (HP.out.below HB5.out) HQ.out HOK.out.eok HOK.out.dl HOK.out.lit (by have := HLL.out; omega) (by have := HLL.out; omega)).mono ?_
    rintro e w6 ⟨rfl, b6⟩
    have HB6 := hide (lec HB5.out b6)
    replace HQ := hide (HQ.out.below b6)
    clear b6 HB5
    go_wp2_with fail
    refine (pfEqual_any _ B b _ b2 va ve vd va2 ve2 vd2 st.L st.E st.D (HP.out.below HB6.out) HQ.out HOK.out.dl (by have := HLL.out; omega) (by have := HLL.out; omega)).mono ?_
    rintro e w7 ⟨rfl, b7⟩
    have HB7 := hide (lec HB6.out b7)
    clear b7 HB6
    go_wp2
    go_ret
    exact ⟨rfl, HB7.out⟩
end Go.Proofs.Qxb6500773aGreat
