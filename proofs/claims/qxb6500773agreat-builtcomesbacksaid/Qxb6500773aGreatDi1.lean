import Derived.Test.Qxb6500773aGreatDr1
import Derived.Test.Qxb6500773aGreatFp2
import Derived.Test.Qxb6500773aGreatPl3
import Derived.Test.Qxb6500773aGreatFm2
namespace Go.Proofs.Qxb6500773aGreat
set_option maxRecDepth 100000
open Go.RowKit

/-- The bytes of a printed formula. -/
theorem foT_byte (nv : Int) (L E : List Int) : ∀ x ∈ foT nv L E, 0 ≤ x ∧ x < 256 := fun x hx => by
  have dec : ∀ v : Int, x ∈ decI v → 0 ≤ x ∧ x < 256 := fun v e => ⟨(decI_nosp x e).2.2.2.1, (decI_nosp x e).2.2.2.2⟩
  unfold foT hdT at hx
  rcases List.mem_append.1 hx with e | e
  · rcases List.mem_append.1 e with e | e
    · simp at e; omega
    · rcases List.mem_append.1 e with e | e
      · exact dec _ e
      · rcases List.mem_append.1 e with e | e
        · simp at e; omega
        · rcases List.mem_append.1 e with e | e
          · exact dec _ e
          · simp at e; omega
  · obtain ⟨i, -, hi⟩ := List.mem_flatMap.1 e
    unfold clT at hi
    rcases List.mem_append.1 hi with e | e
    · obtain ⟨l, -, hl⟩ := List.mem_flatMap.1 e
      rcases List.mem_append.1 hl with e | e
      · exact dec _ e
      · simp at e; omega
    · simp at e; omega
set_option linter.unusedSimpArgs false in
set_option maxRecDepth 100000 in
set_option maxHeartbeats 4000000 in
/-- cnflaw.formulaComesBack -/
theorem foBack_any (w : World) (B b : Nat) (va ve : Value) (hv hc : Int) (st : FSt) (m : Nat) (hm : m ≤ 65536) (hv0 : 0 ≤ hv ∧ hv ≤ 16777215) (hp : FF w B b va ve hv st.L st.E) (hok : FOk m hv hc st) (hd : ∃ T' n', fStep T' n' hv hc st = .done) :
    Calls Tryz.prog 12 #[.pointer (some ⟨b, 0, none⟩)] w (SaPost w true) := by
  have HP := hide hp
  have HOK := hide hok
  have HD := hide hd
  have HV := hide hv0
  have hll : st.L.length + st.E.length ≤ 65536 := by have := hok.len; have := hok.pl.off; omega
  have HLL := hide hll
  have hlen : (foT hv st.L st.E).length ≤ 1000000 := by
    have h1 := foT_len hv0 hok.eok (fun x hx => (hok.lit x hx).1) (by omega)
    omega
  have HLE := hide hlen
  have HLT := hide (show ∀ x ∈ st.L, LitOk x from fun x hx => (hok.lit x hx).1)
  have cp := hide (printDimacs_any w B b va ve hv st.L st.E hp hok.eok (fun x hx => (hok.lit x hx).1) hv0 (by omega))
  clear hp hok hd hll hlen hv0
  have HBY := hide (foT_byte hv st.L st.E)
  have HBK := hide (fun (h : True) => form_back (T := fun i => (foT hv st.L st.E).getD i 0) (n := (foT hv st.L st.E).length) HV.out HOK.out (by omega) HD.out rfl (fun i x hx => by show (foT hv st.L st.E).getD i 0 = x; rw [List.getD_eq_getElem?_getD, hx]; rfl))
  generalize foT hv st.L st.E = Y at *
  go_enter Tryz.func12, Tryz.ntmps12
  go_wp2_with fail
  refine cp.out.mono ?_
  rintro e w3 ⟨a3, c3, rfl, hb3, b3⟩
  have HBT := hide (bb_bt hb3 HBY.out)
  have HB3 := hide b3
  clear hb3 b3 cp
  go_wp2_with fail
  refine (parseDimacs_any _ a3 Y.length c3 (fun i => Y.getD i 0) HBT.out HLE.out).mono ?_
  rintro e w4 ⟨b4, hcase⟩
  obtain ⟨p5, s5, hh5, hr5, hd5, eL, eE⟩ := HBK.out trivial
  rcases hcase with ⟨er, ln, col, -, -, hbad⟩ | ⟨hv2, hc2, p4, s4, b2, va2, ve2, hh4, hr4, hk4, hdone, rfl, hpf, -⟩
  · rcases hbad with ⟨p, hh4, -, -⟩ | ⟨hv2, hc2, p4, s4, hh4, hr4, hk4, hbad⟩
    · rw [hh5] at hh4; cases hh4
    · rw [hh5] at hh4
      cases hh4
      have e := hr4.det (fun x z => by rw [hbad] at z; cases z) hr5 (fun x z => by rw [hd5] at z; cases z)
      rw [e, hd5] at hbad
      cases hbad
  · rw [hh5] at hh4
    cases hh4
    have e := hr4.det (fun x z => by rw [hdone] at z; cases z) hr5 (fun x z => by rw [hd5] at z; cases z)
    rw [e, eL, eE] at hpf
    have HB4 := hide (lec HB3.out b4)
    have HQ := hide hpf
    clear hr4 hk4 hr5 hd5 eL eE hdone e hpf b4 HBK HB3 HBT HBY hh5
    unfold faV
    go_upto_region 2 with fail
    have x0 : (w4.alloc (.cells #[.int .i64 0, .int .i64 0, .int .i64 0] 41)).cell? ⟨w4.heap.size, 0, none⟩ = some (.int .i64 0) := by simp [go_sem]
    have HB5 := hide (lec HB4.out (be1 w4 (.cells #[.int .i64 0, .int .i64 0, .int .i64 0] 41)))
    replace HQ := hide (HQ.out.below (be1 w4 (.cells #[.int .i64 0, .int .i64 0, .int .i64 0] 41)))
    clear HB4
    generalize w4.alloc (.cells #[.int .i64 0, .int .i64 0, .int .i64 0] 41) = w5 at *
    go_wp2_with fail
    refine (sameFormula_any _ B b _ b2 va ve va2 ve2 hv st.L st.E (HP.out.below HB5.out) HQ.out HOK.out.eok HLT.out (by have := HLL.out; omega) (by have := HLL.out; omega)).mono ?_
    rintro e w6 ⟨rfl, b6⟩
    have HB6 := hide (lec HB5.out b6)
    replace HQ := hide (HQ.out.below b6)
    clear b6 HB5
    go_wp2_with fail
    refine (fEqual_any _ B b _ b2 va ve va2 ve2 hv st.L st.E (HP.out.below HB6.out) HQ.out (by have := HLL.out; omega) (by have := HLL.out; omega)).mono ?_
    rintro e w7 ⟨rfl, b7⟩
    have HB7 := hide (lec HB6.out b7)
    clear b7 HB6
    go_wp2
    go_ret
    exact ⟨rfl, HB7.out⟩
end Go.Proofs.Qxb6500773aGreat
