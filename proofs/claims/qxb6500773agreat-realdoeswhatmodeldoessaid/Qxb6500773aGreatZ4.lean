import Derived.Test.Qxb6500773aGreatZ3
import Derived.Test.Qxb6500773aGreatLo1
namespace Go.Proofs.Qxb6500773aGreat
open Go.RowKit

theorem grow_len (V : List Int) (m : Int) (hl : V.length ≤ 16777216) (h0 : 0 ≤ m) (hm : m ≤ 16777215) : m.toNat < (growP V m).length ∧ V.length ≤ (growP V m).length ∧ (growP V m).length ≤ 16777216 := by
  unfold growP
  rw [if_neg (show ¬ 16777215 < m by omega)]
  split
  · omega
  · rw [List.length_append, List.length_replicate]
    unfold gszP
    split
    · omega
    · split <;> omega
theorem grow_ok {k : Int} {V : List Int} (h : VOk k V) (m : Int) : VOk k (growP V m) := by
  have hl := h.len
  unfold growP
  obtain ⟨M, hM⟩ : ∃ M, (if 16777215 < m then 16777215 else m) = M := ⟨_, rfl⟩
  have hM2 : M ≤ 16777215 := by rw [← hM]; split <;> omega
  rw [hM]
  by_cases hlt : M < (V.length : Int)
  · rw [if_pos hlt]; exact h
  · rw [if_neg hlt]
    refine h.grow ?_
    unfold gszP
    split
    · omega
    · split <;> omega
/-- what Set makes of the values -/
def setP (V : List Int) (l : Int) : List Int := (growP V (l / 2)).set (l / 2).toNat (if l % 2 = 0 then 1 else -1)
def setN (V : List Int) (k l : Int) : Int := if (growP V (l / 2)).getD (l / 2).toNat 0 = 0 then k + 1 else k
theorem set_ok {k : Int} {V : List Int} (h : VOk k V) {l : Int} (hl : LitOk l) : VOk (setN V k l) (setP V l) := by
  unfold LitOk at hl
  obtain ⟨g1, _, _⟩ := grow_len V (l / 2) h.len (by omega) (by omega)
  obtain ⟨y, hy⟩ : ∃ y, (growP V (l / 2))[(l / 2).toNat]? = some y := ⟨_, List.getElem?_eq_getElem g1⟩
  have := (grow_ok h (l / 2)).put hy (by omega) (x := if l % 2 = 0 then 1 else -1) (by split <;> omega)
  unfold setN setP
  rw [List.getD_eq_getElem?_getD, hy]
  simp only [Option.getD_some]
  have e : (k - (if y = 0 then 0 else 1) + if (if l % 2 = 0 then (1 : Int) else -1) = 0 then 0 else 1) = if y = 0 then k + 1 else k := by
    split <;> split <;> (try split) <;> omega
  rw [e] at this
  exact this
set_option linter.unusedSimpArgs false in
set_option maxRecDepth 100000 in
set_option maxHeartbeats 8000000 in
/-- cnf.Assignment.Set -/
theorem setA_any (w : World) (B b : Nat) (va : Value) (k : Int) (V : List Int) (h : AT w B b va k V) (hok : VOk k V) (hB : B ≤ w.heap.size) (l : Int) (hl : LitOk l) :
    Calls Tryz.prog 34 #[.pointer (some ⟨b, 0, none⟩), .int .i32 l] w (AgPost w B b va (setN V k l) (setP V l)) := by
  unfold LitOk at hl
  have cL := litVarZ_any w l (by omega)
  have cV := valid_any w l (by omega)
  rw [show validP l = true by unfold validP; simp; omega] at cV
  obtain ⟨v, hv⟩ : ∃ v : Nat, l / 2 = (v : Int) := ⟨(l / 2).toNat, by omega⟩
  have HGR := hide (growA_any w B b va k V h hB hok.len (v : Int) (by omega))
  have cN := fun W : World => negative_any W l (by omega)
  obtain ⟨g1, _, g3⟩ := grow_len V (v : Int) hok.len (by omega) (by omega)
  have hk := cnt_nn V
  have hkc := hok.cnt
  have hkl := hok.len
  have HSN : Hid (setN V k l = if (growP V (v : Int)).getD v 0 = 0 then k + 1 else k) := by show _ = _; unfold setN; rw [hv, Int.toNat_natCast]
  have HSP : Hid (setP V l = (growP V (v : Int)).set v (if l % 2 = 0 then 1 else -1)) := by show _ = _; unfold setP; rw [hv, Int.toNat_natCast]
  rw [Int.toNat_natCast] at g1
  generalize growP V (v : Int) = V1 at *
  have hw1 : IntKind.i64.wrap (v : Int) = (v : Int) := by rw [IntKind.wrap_i64]; omega
  rw [hv] at cL
  clear hok hv
  obtain ⟨K2, hK2⟩ : ∃ q, setN V k l = q := ⟨_, rfl⟩
  obtain ⟨V2, hV2⟩ : ∃ q, setP V l = q := ⟨_, rfl⟩
  rw [hK2] at HSN ⊢
  rw [hV2] at HSP ⊢
  clear hK2 hV2
  go_enter Tryz.func34, Tryz.ntmps34
  go_wp2_with fail
  refine cV.mono ?_
  rintro e w' ⟨rfl, hw'⟩
  rw [hw']
  clear hw' w'
  go_wp2_with fail
  refine cL.mono ?_
  rintro e w' ⟨rfl, hw'⟩
  rw [hw']
  clear hw' w'
  go_wp2_with fail
  refine HGR.out.mono ?_
  rintro e w1 ⟨rfl, hex1, va1, hat1, hvb1⟩
  clear cL cV HGR
  obtain ⟨x, hx⟩ : ∃ x, V1[v]? = some x := ⟨_, List.getElem?_eq_getElem g1⟩
  rw [List.getD_eq_getElem?_getD, hx] at HSN
  simp only [Option.getD_some] at HSN
  obtain ⟨g, c, rfl, hc, hin⟩ := row_cell hat1.row (i := v) (u := .int .i8 x) (by rw [List.getElem?_map, hx]; rfl)
  obtain ⟨n, hn⟩ : ∃ n, V1.length = n := ⟨_, rfl⟩
  rw [hn] at hat1 hin g1 hvb1
  have hrf : ∀ j, w1.frozen? ⟨g, j, none⟩ = false := fun j => by have := hat1.row; rw [hn] at this; exact this.frozenAt j
  have hgb : g ≠ b := fun z => hat1.ne (by rw [← z]; rfl)
  have c0 := hat1.c0
  have c1 := hat1.c1
  have bf := hat1.fz
  have HAT := hide hat1
  have HNL := hide hn
  have HVB := hide hvb1
  have HEX := hide hex1
  have hii : (v : Int) < (n : Int) := by omega
  clear hat1 hex1 hvb1 hn hx
  have HFIN : Hid (∀ (W : World) (kk y : Int), AT W B b (.slice (some ⟨g, 0, none⟩) n c) kk V1 → Ex (fun j => j = b) w1 W → kk = K2 → V2 = V1.set v y → AgPost w B b va K2 V2 (.returned (.tuple #[])) (W.setCell ⟨g, v, none⟩ (.int .i8 y))) := fun W kk y ha he hk2 hy => by
    have ha2 := ha.put HNL.out v y
    rw [← hy, hk2] at ha2
    refine ⟨rfl, ?_, _, ha2, HVB.out⟩
    have e1 : Ex (fun j => j = b ∨ va.ownBlock = some j) w W := HEX.out.trans (he.mono (fun j hj => .inl hj))
    rcases HVB.out g rfl with z | z
    · exact e1.set (p := g) (.inr z) _
    · exact e1.setNew (p := g) z _
  by_cases hz : x = 0
  · subst hz
    rw [if_pos rfl] at HSN
    have hwk : wrap64 (k + 1) = k + 1 := by unfold wrap64; omega
    have HK := hide (HAT.out.setK (k + 1))
    have EK : Ex (fun j => j = b) w1 (w1.setCell ⟨b, 1, none⟩ (.int .i64 (k + 1))) := (Ex.refl (fun j => j = b) w1).set (p := b) rfl _
    have y0 := HK.out.c0
    have yc := EK.cell (q := g) hgb hc
    have yf : ∀ j, (w1.setCell ⟨b, 1, none⟩ (.int .i64 (k + 1))).frozen? ⟨g, j, none⟩ = false := fun j => by rw [set_frozen]; exact hrf j
    have HEK := hide EK
    clear EK hk hkc
    go_upto_region 5 with fail
    clear c0 c1 bf hc hrf hwk
    generalize w1.setCell ⟨b, 1, none⟩ (.int .i64 (k + 1)) = W2 at *
    go_wp2_with fail
    refine (cN W2).mono ?_
    rintro e w' ⟨rfl, hw'⟩
    rw [hw']
    clear hw' w'
    by_cases h2 : l % 2 = 0
    · have hb : (l % 2 != 0) = false := by simp [h2]
      rw [hb]
      rw [if_pos h2] at HSP
      have HP := hide (HFIN.out _ _ 1 HK.out HEK.out HSN.out.symm HSP.out)
      clear HFIN cN hb h2
      go_wp2_with (first | with_reducible refine bodyPost_ret (v := .tuple #[]) ?hr ?hd ?hp | with_reducible refine bodyPost_nrm (v := .tuple #[]) ?hr ?hd ?hp)
      case hr => exact results_nil Tryz.results34
      case hd => rfl
      case hp => exact HP.out
    · have hb : (l % 2 != 0) = true := by simpa using h2
      rw [hb]
      rw [if_neg h2] at HSP
      have HP := hide (HFIN.out _ _ (-1) HK.out HEK.out HSN.out.symm HSP.out)
      clear HFIN cN hb h2
      go_wp2_with (first | with_reducible refine bodyPost_ret (v := .tuple #[]) ?hr ?hd ?hp | with_reducible refine bodyPost_nrm (v := .tuple #[]) ?hr ?hd ?hp)
      case hr => exact results_nil Tryz.results34
      case hd => rfl
      case hp => exact HP.out
  · rw [if_neg hz] at HSN
    have hzb : (x == 0) = false := by simpa using hz
    clear hk hkc
    go_upto_region 5 with fail
    clear hzb hz
    go_wp2_with fail
    refine (cN w1).mono ?_
    rintro e w' ⟨rfl, hw'⟩
    rw [hw']
    clear hw' w'
    by_cases h2 : l % 2 = 0
    · have hb : (l % 2 != 0) = false := by simp [h2]
      rw [hb]
      rw [if_pos h2] at HSP
      have HP := hide (HFIN.out _ _ 1 HAT.out (Ex.refl _ _) HSN.out.symm HSP.out)
      clear HFIN cN hb h2
      go_wp2_with (first | with_reducible refine bodyPost_ret (v := .tuple #[]) ?hr ?hd ?hp | with_reducible refine bodyPost_nrm (v := .tuple #[]) ?hr ?hd ?hp)
      case hr => exact results_nil Tryz.results34
      case hd => rfl
      case hp => exact HP.out
    · have hb : (l % 2 != 0) = true := by simpa using h2
      rw [hb]
      rw [if_neg h2] at HSP
      have HP := hide (HFIN.out _ _ (-1) HAT.out (Ex.refl _ _) HSN.out.symm HSP.out)
      clear HFIN cN hb h2
      go_wp2_with (first | with_reducible refine bodyPost_ret (v := .tuple #[]) ?hr ?hd ?hp | with_reducible refine bodyPost_nrm (v := .tuple #[]) ?hr ?hd ?hp)
      case hr => exact results_nil Tryz.results34
      case hd => rfl
      case hp => exact HP.out
end Go.Proofs.Qxb6500773aGreat
