import Derived.Test.Qxb6500777aRm5
import Derived.Test.Qxb6500777aSc
namespace Go.Proofs.Qxb6500777a
open Go.RowKit

/-- The model's board. -/
def MB (w : World) (mb B : Nat) (EE : Nat → List Slt) (NN : Nat → Int) : Prop := ∀ i, i < 4 → ∃ (a : Option Addr) (c : Nat), VA w mb (i * 2) B a (EE i).length c (EE i) (NN i)
section
variable {w w' : World} {mb B : Nat} {EE : Nat → List Slt} {NN : Nat → Int}
theorem MB.lt (h : MB w mb B EE NN) : mb < w.heap.size := by obtain ⟨_, _, h⟩ := h 0 (by omega); exact h.ml
theorem MB.ltB (h : MB w mb B EE NN) : mb < B := by obtain ⟨_, _, h⟩ := h 0 (by omega); exact h.lt
theorem MB.congr (h : MB w mb B EE NN) {NN' : Nat → Int} (e : ∀ i, i < 4 → NN i = NN' i) : MB w mb B EE NN' := fun i hi => by rw [← e i hi]; exact h i hi
theorem MB.congr2 (h : MB w mb B EE NN) {EE' : Nat → List Slt} (e : ∀ i, i < 4 → EE i = EE' i) : MB w mb B EE' NN := fun i hi => by rw [← e i hi]; exact h i hi
theorem MB.below (h : MB w mb B EE NN) (k : Below w.heap.size w w') : MB w' mb B EE NN := fun i hi => by obtain ⟨a, c, h⟩ := h i hi; exact ⟨a, c, h.below k⟩
theorem MB.keep (h : MB w mb B EE NN) {b lo n : Nat} (k : Fr b lo n w w') (h1 : mb ≠ b) (h2 : b < B) : MB w' mb B EE NN := fun i hi => by obtain ⟨a, c, h⟩ := h i hi; exact ⟨a, c, h.keep k h1 (.inl h2)⟩
theorem VA.base {o n c : Nat} {a : Option Addr} {E : List Slt} {nx : Int} {B' : Nat} (h : VA w mb o B' a n c E nx) (hB : B ≤ B') (hm : mb < B) : VA w mb o B a n c E nx := ⟨h.c0, h.c1, h.f, own_base h.row hB, h.len, hm⟩
theorem VA.apart {o o' n c : Nat} {a : Option Addr} {E : List Slt} {nx : Int} (h : VA w mb o' B a n c E nx) (k : Fr mb o 2 w w') (ho : o' + 2 ≤ o ∨ o + 2 ≤ o') : VA w' mb o' B a n c E nx :=
  ⟨by rw [k.cell o' (by omega)]; exact h.c0, by rw [k.cell (o' + 1) (by omega)]; exact h.c1, fun j => (k.fr j).trans (h.f j), h.row.keep k.ex (fun g hg e => by have := (h.row.own hg).1; have := h.lt; omega), h.len, h.lt⟩
theorem MB.team (h : MB w mb B EE NN) {t : Nat} (k : Fr mb (t * 2) 2 w w') {a : Option Addr} {c : Nat} {E : List Slt} {nx : Int} (hv : VA w' mb (t * 2) B a E.length c E nx) : MB w' mb B (upd EE t E) (upd NN t nx) := fun i hi => by
  by_cases e : i = t
  · subst e; rw [upd_same, upd_same]; exact ⟨a, c, hv⟩
  · rw [upd_ne _ _ e, upd_ne _ _ e]
    obtain ⟨a, c, h⟩ := h i hi
    exact ⟨a, c, h.apart k (by omega)⟩
end
def MnPost (w : World) (e : Ending) (w' : World) : Prop := e = .returned (.pointer (some ⟨w.heap.size, 0, none⟩)) ∧ MB w' w.heap.size (w.heap.size + 1) (fun _ => []) (fun _ => 1) ∧ Below w.heap.size w w'
theorem new_mb (w : World) : MB (w.alloc (.cells #[.slice none 0 0, .int .i64 0, .slice none 0 0, .int .i64 0, .slice none 0 0, .int .i64 0, .slice none 0 0, .int .i64 0] 106)) w.heap.size (w.heap.size + 1) (fun _ => []) (fun _ => 0) := fun i hi => by
  refine ⟨none, 0, ?_, ?_, fun j => by simp [go_sem], World.ownsRow_nil _ _ _ _, rfl, by omega⟩
  · rcases (by omega : i = 0 ∨ i = 1 ∨ i = 2 ∨ i = 3) with rfl | rfl | rfl | rfl <;> simp [go_sem]
  · rcases (by omega : i = 0 ∨ i = 1 ∨ i = 2 ∨ i = 3) with rfl | rfl | rfl | rfl <;> simp [go_sem]
set_option maxRecDepth 100000 in
set_option maxHeartbeats 4000000 in
/-- tracksm.New -/
theorem newM_any (w : World) : Calls Try.prog 17 #[] w (MnPost w) := by
  go_enter Try.func17, Try.ntmps17
  go_upto_region 2 with fail
  have HM := hide ((new_mb w))
  have HB := hide (be1 w (.cells #[.slice none 0 0, .int .i64 0, .slice none 0 0, .int .i64 0, .slice none 0 0, .int .i64 0, .slice none 0 0, .int .i64 0] 106))
  generalize w.alloc (.cells #[.slice none 0 0, .int .i64 0, .slice none 0 0, .int .i64 0, .slice none 0 0, .int .i64 0, .slice none 0 0, .int .i64 0] 106) = w1 at *
  obtain ⟨mb, hmb⟩ : ∃ x, w.heap.size = x := ⟨_, rfl⟩
  have hge : w.heap.size ≤ mb := by omega
  have HPO := hide (show ∀ wx, MB wx mb (mb + 1) (fun _ => []) (fun _ => 1) → Below w.heap.size w wx → MnPost w (.returned (.pointer (some ⟨mb, 0, none⟩))) wx from fun wx h1 h2 => ⟨by rw [hmb], by rw [hmb]; exact h1, h2⟩)
  rw [hmb] at HM ⊢
  clear hmb
  go_wp2
  go_loopw [2] (fun s2 wr => ∃ t : Nat, t ≤ 4 ∧ s2 = .int .i64 t ∧ MB wr mb (mb + 1) (fun _ => []) (fun i => if i < t then 1 else 0) ∧ Below w.heap.size w wr) (fun s2 _ => 4 - (intOf s2).toNat)
  case atStart => exact ⟨0, by omega, rfl, HM.out.congr (fun i _ => by rw [if_neg (by omega)]), HB.out⟩
  case round =>
    clear HM HB
    obtain ⟨t, ht, rfl, hm, hb⟩ := hrel
    have HM := hide hm
    have HB := hide hb
    clear hm hb
    by_cases ht4 : t < 4
    · have ht4i : (t : Int) < 4 := by omega
      have ht0 : decide ((t : Int) < 0) = false := by simp
      obtain ⟨a, c, hv⟩ := HM.out t ht4
      have HV := hide hv
      have c1 := hv.c1
      have f1 := hv.f
      clear hv
      have HN := hide (HV.out.next 1)
      have HM2 := hide (HM.out.team HN.out.2 HN.out.1)
      have HB2 := hide (bel_fr HB.out HN.out.2 hge)
      clear HM HB HV HN
      go_wp2
      go_roundw
      case rel => exact ⟨t + 1, by omega, by simp, (HM2.out.congr (fun i _ => by
        by_cases e : i = t
        · subst e; rw [upd_same, if_pos (by omega)]
        · rw [upd_ne _ _ e]
          by_cases z : i < t
          · rw [if_pos z, if_pos (by omega)]
          · rw [if_neg z, if_neg (by omega)])).congr2 (fun i _ => by
        by_cases e : i = t
        · subst e; rw [upd_same]
        · rw [upd_ne _ _ e]), HB2.out⟩
      case measure => simp [intOf]; omega
    · obtain rfl : t = 4 := by omega
      rw [show ((4 : Nat) : Int) = 4 from rfl]
      have HPX := hide (HPO.out wr (HM.out.congr (fun i hi => by rw [if_pos hi])) HB.out)
      go_wp2
      go_ret
      exact HPX.out
set_option linter.unusedSimpArgs false in
set_option maxRecDepth 100000 in
set_option maxHeartbeats 4000000 in
/-- tracksm.Board.Table -/
theorem tableM_any (w : World) (mb t B : Nat) (ht : t < 4) (a : Option Addr) (n c : Nat) (E : List Slt) (nx : Int) (h : VA w mb (t * 2) B a n c E nx) (h64 : n ≤ 64) :
    Calls Try.prog 24 #[.pointer (some ⟨mb, 0, none⟩), .int .i64 t] w (TbPost w (E.map Slt.tr)) := by
  have hti : (t : Int) < 4 := by omega
  have ht0 : decide ((t : Int) < 0) = false := by simp
  have HV := hide h
  have HLN := hide h.len
  clear h
  obtain ⟨i0, hi0, hz0, hz1, hz2⟩ : ∃ i0, Try.prog.info? 51 = some i0 ∧ i0.zero = some (.agg #[.int .i64 0, .int .i64 0, .int .i64 0, .int .i64 0, .int .i64 0, .int .i64 0, .int .i64 0]) ∧ i0.size = 7 ∧ i0.bytes = 56 := ⟨_, rfl, rfl, rfl, rfl⟩
  go_enter Try.func24, Try.ntmps24
  go_wp2
  go_loopw [5, 6] (fun s5 s6 wr => ∃ (i : Nat) (ao : Option Addr) (co : Nat), i ≤ n ∧ s6 = .int .i64 i ∧ s5 = .slice ao ((E.take i).map Slt.tr).length co ∧ TRow wr w.heap.size (.slice ao ((E.take i).map Slt.tr).length co) ((E.take i).map Slt.tr) ∧ Below w.heap.size w wr) (fun _ s6 _ => n - (intOf s6).toNat)
  case atStart => exact ⟨0, none, 0, by omega, rfl, rfl, World.ownsRow_nil _ _ _ _, Below.refl _ _⟩
  case round =>
    obtain ⟨i, ao, co, hi, rfl, rfl, hr, hb⟩ := hrel
    have HR := hide hr
    have HE := hide hb
    clear hr hb
    have HVr := hide (HV.out.below HE.out)
    have c0 := HVr.out.c0
    by_cases hin : i < n
    · have hini : (i : Int) < (n : Int) := by omega
      have hi0' : decide ((i : Int) < 0) = false := by simp
      obtain ⟨e, he⟩ : ∃ e, E[i]? = some e := ⟨_, List.getElem?_eq_getElem (by have := HLN.out; omega)⟩
      have HX := hide (show (E.take (i + 1)).map Slt.tr = (E.take i).map Slt.tr ++ [e.tr] by rw [take_succ he, List.map_append]; rfl)
      have hLl : ((E.take i).map Slt.tr).length ≤ i := by rw [List.length_map, List.length_take]; omega
      obtain ⟨L, hL⟩ : ∃ L, (E.take i).map Slt.tr = L := ⟨_, rfl⟩
      rw [hL] at HX HR hLl ⊢
      clear hL
      obtain ⟨ge, ea, hre⟩ := HVr.out.row.get HVr.out.len he
      rw [ea] at c0
      obtain ⟨e0, e1, e2, e3, e4, e5, e6, e7, e8⟩ := hre.ee
      clear hre he e0 e1
      have HR3 := hide (HR.out.below (be1 wr (.cells #[.int .i64 e.tr.num, .int .i64 e.tr.x, .int .i64 e.tr.y, .int .i64 e.tr.co, .int .i64 e.tr.sp, .int .i64 e.tr.st, .int .i64 e.tr.ag] 51)))
      have HE3 := hide (lec HE.out (be1 wr (.cells #[.int .i64 e.tr.num, .int .i64 e.tr.x, .int .i64 e.tr.y, .int .i64 e.tr.co, .int .i64 e.tr.sp, .int .i64 e.tr.st, .int .i64 e.tr.ag] 51)))
      have HNC := hide (show ∀ (j : Nat) (u : Value), (Trk.vals e.tr)[j]? = some u → (wr.alloc (.cells #[.int .i64 e.tr.num, .int .i64 e.tr.x, .int .i64 e.tr.y, .int .i64 e.tr.co, .int .i64 e.tr.sp, .int .i64 e.tr.st, .int .i64 e.tr.ag] 51)).cell? ((⟨wr.heap.size, 0, none⟩ : Addr).add j) = some u from fun j u hj => new_cells _ (Trk.vals e.tr) 51 j u hj)
      have HVV := hide (tvals_one e.tr)
      have HSZ := hide (show w.heap.size ≤ (wr.alloc (.cells #[.int .i64 e.tr.num, .int .i64 e.tr.x, .int .i64 e.tr.y, .int .i64 e.tr.co, .int .i64 e.tr.sp, .int .i64 e.tr.st, .int .i64 e.tr.ag] 51)).heap.size from HE3.out.size)
      have HMX := hide (show L.length + 1 ≤ maxLen ∧ (L.length + 1) * 56 ≤ 140737488355328 by unfold maxLen; omega)
      go_wp2_with (at_builtin; go_loud (refine wpList_append_own _ rfl (.tmp 19) (.tmp 31) 42 rfl w.heap.size 51 i0 _ 7 56 Try.underlying42 hi0 hz0 hz1 hz2 rfl (by decide) (.slice ao L.length co) L.length (L.flatMap Trk.vals) rfl HR3.out _ 1 1 (Trk.vals e.tr) rfl rfl HNC.out HVV.out HMX.out.1 HMX.out.2 HSZ.out ?_; intro v' w3 hown hgrow hnil; have HE4 := hide (bel_grownT HE3.out HR3.out hgrow); have HR4 := hide hown; obtain ⟨g, c4, rfl⟩ := own_some hown (by omega); clear hown hgrow hnil))
      clear HR HE HR3 HE3 HNC HVV HSZ HMX HVr c0 e2 e3 e4 e5 e6 e7 e8
      go_wp2
      go_roundw
      case rel =>
        refine ⟨i + 1, some ⟨g, 0, none⟩, c4, by omega, by simp, by rw [HX.out, List.length_append]; rfl, ?_, HE4.out⟩
        rw [HX.out]
        have := HR4.out
        unfold TRow
        rw [List.flatMap_append, List.length_append]
        simpa using this
      case measure => simp [intOf]; omega
    · have hini : ¬ (i : Int) < (n : Int) := by omega
      rw [List.take_of_length_le (by have := HLN.out; omega)] at HR ⊢
      have HPO := hide (show TbPost w (E.map Slt.tr) (.returned (.slice ao E.length co)) wr from ⟨ao, co, by rw [List.length_map], HR.out, HE.out⟩)
      go_wp2
      go_ret
      exact HPO.out
def MbPost (w : World) (mb B : Nat) (R : (Nat → List Slt) → (Nat → Int) → Prop) (e : Ending) (w' : World) : Prop := ∃ EE NN, e = .returned (.tuple #[]) ∧ MB w' mb B EE NN ∧ R EE NN ∧ Fr mb 0 8 w w'
set_option linter.unusedSimpArgs false in
set_option maxRecDepth 100000 in
set_option maxHeartbeats 4000000 in
/-- tracksm.Board.Tick -/
theorem tickM_any (w : World) (m mb p : Nat) (X Y : Nat → Int) (W : Nat → Tgt) (da : Option Addr) (nd cd : Nat) (D : List Det) (B : Nat) (EE : Nat → List Slt) (NN : Nat → Int)
    (hv : MB w mb B EE NN) (hB : B ≤ w.heap.size) (hE : ∀ i, i < 4 → MI (EE i) (NN i) ∧ (0 ≤ NN i ∧ NN i + 112 ≤ 1000000000) ∧ (EE i).length ≤ 64) (hc : TC w m p X Y W da D) (hnd : nd = D.length) (hld : nd ≤ 1000000) (hW : ∀ t, t < 112 → TgtOk (W t)) (hne : TN m p mb da) :
    Calls Try.prog 21 #[.pointer (some ⟨mb, 0, none⟩), .pointer (some ⟨m, 0, none⟩), .slice da nd cd, .pointer (some ⟨p, 0, none⟩)] w (MbPost w mb B (fun EE' NN' => ∀ i : Nat, i < 4 → MTick (fuseP D (i : Int)) W X Y (EE i) (NN i) (EE' i) (NN' i))) := by
  have HV := hide hv
  have HE := hide hE
  have HC := hide hc
  have HND := hide hnd
  have HW := hide hW
  have HN := hide hne
  have HMB := hide hv.lt
  clear hv hE hc hnd hW hne
  go_enter Try.func21, Try.ntmps21
  go_wp2
  go_loopw [8] (fun s8 wr => ∃ (t : Nat) (EE' : Nat → List Slt) (NN' : Nat → Int), t ≤ 4 ∧ s8 = .int .i64 t ∧ MB wr mb B EE' NN' ∧ Hid (∀ i : Nat, i < t → MTick (fuseP D (i : Int)) W X Y (EE i) (NN i) (EE' i) (NN' i)) ∧ Hid (∀ i, t ≤ i → EE' i = EE i ∧ NN' i = NN i) ∧ Fr mb 0 8 w wr) (fun s8 _ => 4 - (intOf s8).toNat)
  case atStart => exact ⟨0, EE, NN, by omega, rfl, HV.out, hide (fun i hi => by omega), hide (fun _ _ => ⟨rfl, rfl⟩), Fr.refl _ _ _ _⟩
  case round =>
    obtain ⟨t, EE', NN', ht, rfl, hm, HLO, HHI, hfr⟩ := hrel
    have HM := hide hm
    have HF := hide hfr
    clear hm hfr
    by_cases ht4 : t < 4
    · have ht4i : (t : Int) < 4 := by omega
      have ht0 : decide ((t : Int) < 0) = false := by simp
      obtain ⟨a, c, hv⟩ := HM.out t ht4
      have HVt := hide hv
      clear hv
      obtain ⟨q1, q2⟩ := HHI.out t (Nat.le_refl _)
      rw [q1, q2] at HVt
      obtain ⟨r1, r2, r3⟩ := HE.out t ht4
      have HMI := hide r1
      clear q1 q2 r1
      go_wp2_with fail
      refine (mtick_any _ m mb (t * 2) p (t : Int) X Y W da nd cd D B a _ c (EE t) (NN t) HVt.out HMI.out (HC.out.fr HN.out HF.out) HND.out hld HW.out HN.out r2 r3).mono ?_
      rintro e w2 ⟨a2, c2, E2, n2, rfl, hv, hf, hr⟩
      have HM2 := hide (HM.out.team hf (hv.base (by have := HF.out.ex.size; omega) HM.out.ltB))
      have HF2 := hide (HF.out.trans (hf.mono (by omega) (by omega)))
      have HLO2 := hide (show ∀ i : Nat, i < t + 1 → MTick (fuseP D (i : Int)) W X Y (EE i) (NN i) (upd EE' t E2 i) (upd NN' t n2 i) from fun i hi => by
        by_cases e : i = t
        · subst e; rw [upd_same, upd_same]; exact hr
        · rw [upd_ne _ _ e, upd_ne _ _ e]; exact HLO.out i (by omega))
      have HHI2 := hide (show ∀ i, t + 1 ≤ i → upd EE' t E2 i = EE i ∧ upd NN' t n2 i = NN i from fun i hi => by
        rw [upd_ne _ _ (by omega), upd_ne _ _ (by omega)]; exact HHI.out i (by omega))
      clear hv hf hr HM HF HLO HHI HVt HMI
      go_wp2
      go_roundw
      case rel => exact ⟨t + 1, _, _, by omega, by simp, HM2.out, HLO2, HHI2, HF2.out⟩
      case measure => simp [intOf]; omega
    · obtain rfl : t = 4 := by omega
      rw [show ((4 : Nat) : Int) = 4 from rfl]
      have HPO := hide (show MbPost w mb B (fun EE' NN' => ∀ i : Nat, i < 4 → MTick (fuseP D (i : Int)) W X Y (EE i) (NN i) (EE' i) (NN' i)) (.returned (.tuple #[])) wr from ⟨EE', NN', rfl, HM.out, HLO.out, HF.out⟩)
      go_wp2
      exact bodyPost_ret (v := .tuple #[]) (by simp [results, Try.results21, go_sem]) rfl HPO.out
end Go.Proofs.Qxb6500777a
