import Derived.Test.Qxb6500773aGreatLo3
import Derived.Deep.CutBlock
namespace Go.Proofs.Qxb6500773aGreat
set_option maxRecDepth 100000
open Go.RowKit

theorem chkP_zero : ∀ {C : List Int}, chkP C = 0 → ∀ x ∈ C, LitOk x
  | [], _, x, hx => by cases hx
  | l :: C, h, x, hx => by
    unfold chkP at h
    split at h
    · cases h
    · next h2 =>
      split at h
      · next hv =>
        rcases List.mem_cons.1 hx with e | e
        · subst e
          unfold validP at hv
          simp at hv
          unfold LitOk
          omega
        · exact chkP_zero h x e
      · cases h
theorem FF.setNv {w : World} {B b : Nat} {va ve : Value} {nv : Int} {L E : List Int} (h : FF w B b va ve nv L E) (u : Int) : FF (w.setCell ⟨b, 0, none⟩ (.int .i64 u)) B b va ve u L E ∧ Ex (fun k => k = b) w (w.setCell ⟨b, 0, none⟩ (.int .i64 u)) := by
  have e : Ex (fun k => k = b) w (w.setCell ⟨b, 0, none⟩ (.int .i64 u)) := (Ex.refl (fun k => k = b) w).set (p := b) rfl _
  refine ⟨⟨⟨?_, ?_, fun j => by rw [set_frozen]; exact h.ar.f j, own_kept h.ar.r0 e (fun k z y => h.ar.a0 (y ▸ z)), own_kept h.ar.r1 e (fun k z y => h.ar.a1 (y ▸ z)), h.ar.a0, h.ar.a1, h.ar.a2⟩, World.cell?_setCell_same _ _ _ h.c⟩, e⟩
  · rw [World.cell?_setCell_other _ _ _ _ (by simp)]; exact h.ar.c0
  · rw [World.cell?_setCell_other _ _ _ _ (by simp)]; exact h.ar.c1
def mxV (nv t : Int) : Int := if nv < t then t else nv
def AdPost (w : World) (B b : Nat) (va ve : Value) (nv : Int) (L E C : List Int) (e : Ending) (w' : World) : Prop :=
  (chkP C ≠ 0 ∧ e = .returned (.tuple #[.int .i64 (-1), .int .i64 (chkP C)]) ∧ w' = w) ∨
  (chkP C = 0 ∧ e = .returned (.tuple #[.int .i64 E.length, .int .i64 0]) ∧ Ex (fun k => k = b ∨ va.ownBlock = some k ∨ ve.ownBlock = some k) w w' ∧ ∃ va' ve', FF w' B b va' ve' (mxV nv (mxP C)) (L ++ C) (E ++ [((L ++ C).length : Int)]) ∧ (∀ k, va'.ownBlock = some k → va.ownBlock = some k ∨ w.heap.size ≤ k) ∧ (∀ k, ve'.ownBlock = some k → ve.ownBlock = some k ∨ w.heap.size ≤ k))
set_option linter.unusedSimpArgs false in
set_option maxRecDepth 100000 in
set_option maxHeartbeats 4000000 in
/-- cnf.Formula.Add -/
theorem fAdd_any (w : World) (B b : Nat) (va ve : Value) (nv : Int) (L E : List Int) (g' o' c' : Nat) (C : List Int) (h : FF w B b va ve nv L E) (hB : B ≤ w.heap.size) (hL : L.length + C.length ≤ 1000000000) (hE : E.length ≤ 1000000000) (hc : CL w (some ⟨g', o', none⟩) C) (hr : ∀ x ∈ C, I32 x) (hne : 0 < C.length) (hgb : g' ≠ b) :
    Calls Tryz.prog 103 #[.pointer (some ⟨b, 0, none⟩), .slice (some ⟨g', o', none⟩) C.length c'] w (AdPost w B b va ve nv L E C) := by
  have HF := hide h
  have HBS := hide hB
  have HLL := hide hL
  have HEL := hide hE
  have HC := hide hc
  have HNE := hide hne
  have HGB := hide hgb
  have ck := check_any w _ c' C hc hr (by omega)
  clear h hB hL hc hne hgb
  go_enter Tryz.func103, Tryz.ntmps103
  go_wp2_with fail
  refine ck.mono ?_
  rintro e w' ⟨rfl, hw⟩
  rw [hw]
  clear hw w' ck
  by_cases hk : chkP C = 0
  · have HK := hide hk
    have hcz := hide (chkP_zero hk)
    rw [hk]
    clear hk
    have h4 : decide (2147483647 ≤ (E.length : Int)) = false := by simp; omega
    have h4n : decide (2147483647 ≤ E.length) = false := by simp; omega
    go_wp2_with fail
    refine (numClauses_any w B b va ve L E HF.out.ar).mono ?_
    rintro e w' ⟨rfl, hw⟩
    rw [hw]
    clear hw w'
    go_wp2_with fail
    refine (maxVar_any w _ c' C HC.out hcz.out (by have := HLL.out; omega)).mono ?_
    rintro e w' ⟨rfl, hw⟩
    rw [hw]
    clear hw w'
    have hmx : 0 ≤ mxP C ∧ mxP C ≤ 16777215 := ⟨(mx_ge (C := C) (t := 0)).1, mx_le (by decide) (fun x hx => by have := hcz.out x hx; unfold LitOk at this; omega)⟩
    obtain ⟨t, ht⟩ : ∃ t, mxP C = t := ⟨_, rfl⟩
    have HT := hide ht
    rw [ht] at hmx ⊢
    clear ht
    have hw1 : IntKind.i64.wrap t = t := by rw [IntKind.wrap_i64]; omega
    have c0 := HF.out.c
    have f0 := HF.out.ar.f
    have hsub : IntKind.i64.wrap (((E.length + 1 : Nat) : Int) - 1) = (E.length : Int) := by rw [IntKind.wrap_i64]; omega
    have hsub2 : IntKind.i64.wrap ((E.length : Int) + 1 - 1) = (E.length : Int) := by rw [IntKind.wrap_i64]; omega
    by_cases hnt : nv < t
    · have hnb : decide (nv < t) = true := by simpa using hnt
      have HMV := hide (show mxV nv t = t by unfold mxV; rw [if_pos hnt])
      have hfs := HF.out.setNv t
      go_upto_region 9 with fail
      have HF2 := hide hfs.1
      have HX2 := hide hfs.2
      have HC2 := hide (HC.out.keep HX2.out (fun g o e z => by cases e; exact HGB.out z))
      clear hfs c0 f0
      generalize World.setCell w ⟨b, 0, none⟩ (.int .i64 t) = w2 at *
      go_wp2_with fail
      refine (push_any w2 B b 1 va ve L E g' o' c' C HF2.out.ar (Nat.le_trans HBS.out HX2.out.size) HLL.out HEL.out HC2.out HNE.out).mono ?_
      rintro e w3 ⟨rfl, va', ve', har, hex, hkp, hva, hve⟩
      have HF3 := hide (show FF w3 B b va' ve' (mxV nv t) (L ++ C) (E ++ [((L ++ C).length : Int)]) from ⟨har, by rw [HMV.out]; exact hkp 0 _ (by omega) (by omega) HF2.out.c⟩)
      have HX3 := hide (show Ex (fun k => k = b ∨ va.ownBlock = some k ∨ ve.ownBlock = some k) w w3 from (HX2.out.mono fun k z => .inl z).trans hex)
      have HVA := hide (show (∀ k, va'.ownBlock = some k → va.ownBlock = some k ∨ w.heap.size ≤ k) ∧ (∀ k, ve'.ownBlock = some k → ve.ownBlock = some k ∨ w.heap.size ≤ k) from ⟨fun k z => (hva k z).imp id (fun z => Nat.le_trans HX2.out.size z), fun k z => (hve k z).imp id (fun z => Nat.le_trans HX2.out.size z)⟩)
      clear har hex hkp hva hve
      go_wp2_with fail
      refine (numClauses_any w3 B b va' ve' (L ++ C) (E ++ [((L ++ C).length : Int)]) HF3.out.ar).mono ?_
      rintro e w' ⟨rfl, hw⟩
      rw [hw, List.length_append, show ([((L ++ C).length : Int)] : List Int).length = 1 from rfl]
      clear hw w'
      have HPO := hide (show AdPost w B b va ve nv L E C (.returned (.tuple #[.int .i64 E.length, .int .i64 0])) w3 from .inr ⟨HK.out, rfl, HX3.out, va', ve', by rw [HT.out]; exact HF3.out, HVA.out.1, HVA.out.2⟩)
      go_wp2
      exact bodyPost_ret (v := .tuple #[.int .i64 E.length, .int .i64 0]) (by simp [results, Tryz.results103, go_sem]) rfl HPO.out
    · have hnb : decide (nv < t) = false := by simpa using hnt
      have hnn : (nv < t) = False := by simpa using hnt
      have hnl : t ≤ nv := by omega
      have HMV := hide (show mxV nv t = nv by unfold mxV; rw [if_neg hnt])
      go_upto_region 9 with fail
      have HF2 := HF
      have HX2 := hide (Ex.refl (fun k => k = b) w)
      have HC2 := HC
      go_wp2_with fail
      refine (push_any w B b 1 va ve L E g' o' c' C HF2.out.ar (Nat.le_trans HBS.out HX2.out.size) HLL.out HEL.out HC2.out HNE.out).mono ?_
      rintro e w3 ⟨rfl, va', ve', har, hex, hkp, hva, hve⟩
      have HF3 := hide (show FF w3 B b va' ve' (mxV nv t) (L ++ C) (E ++ [((L ++ C).length : Int)]) from ⟨har, by rw [HMV.out]; exact hkp 0 _ (by omega) (by omega) HF2.out.c⟩)
      have HX3 := hide (show Ex (fun k => k = b ∨ va.ownBlock = some k ∨ ve.ownBlock = some k) w w3 from (HX2.out.mono fun k z => .inl z).trans hex)
      have HVA := hide (show (∀ k, va'.ownBlock = some k → va.ownBlock = some k ∨ w.heap.size ≤ k) ∧ (∀ k, ve'.ownBlock = some k → ve.ownBlock = some k ∨ w.heap.size ≤ k) from ⟨fun k z => (hva k z).imp id (fun z => Nat.le_trans HX2.out.size z), fun k z => (hve k z).imp id (fun z => Nat.le_trans HX2.out.size z)⟩)
      clear har hex hkp hva hve
      go_wp2_with fail
      refine (numClauses_any w3 B b va' ve' (L ++ C) (E ++ [((L ++ C).length : Int)]) HF3.out.ar).mono ?_
      rintro e w' ⟨rfl, hw⟩
      rw [hw, List.length_append, show ([((L ++ C).length : Int)] : List Int).length = 1 from rfl]
      clear hw w'
      have HPO := hide (show AdPost w B b va ve nv L E C (.returned (.tuple #[.int .i64 E.length, .int .i64 0])) w3 from .inr ⟨HK.out, rfl, HX3.out, va', ve', by rw [HT.out]; exact HF3.out, HVA.out.1, HVA.out.2⟩)
      go_wp2
      exact bodyPost_ret (v := .tuple #[.int .i64 E.length, .int .i64 0]) (by simp [results, Tryz.results103, go_sem]) rfl HPO.out
  · have hkb : (chkP C == 0) = false := by simpa using hk
    have HPO := hide (show AdPost w B b va ve nv L E C (.returned (.tuple #[.int .i64 (-1), .int .i64 (chkP C)])) w from .inl ⟨hk, rfl, rfl⟩)
    clear hk
    generalize chkP C = R at *
    go_wp2
    exact bodyPost_ret (v := .tuple #[.int .i64 (-1), .int .i64 R]) (by simp [results, Tryz.results103, go_sem]) rfl HPO.out
/-- The numbers of a clause packed: the first failure. -/
def ncE : List Int → Int
  | [] => 0
  | d :: X => if (fromP d).2 = 0 then ncE X else (fromP d).2
def NcPost (w : World) (X : List Int) (e : Ending) (w' : World) : Prop := Below w.heap.size w w' ∧
  ((ncE X ≠ 0 ∧ e = .returned (.tuple #[.slice none 0 0, .int .i64 (ncE X)])) ∨
   (ncE X = 0 ∧ ∃ a c, e = .returned (.tuple #[.slice a X.length c, .int .i64 0]) ∧ w'.ownsRow w.heap.size 64 1 (.slice a X.length c) X.length ((X.map fun d => (fromP d).1).map (Value.int .i32))))
set_option linter.unusedSimpArgs false in
set_option maxRecDepth 100000 in
set_option maxHeartbeats 4000000 in
/-- cnf.NewClause -/
theorem newClause_any (w : World) (a : Option Addr) (c : Nat) (X : List Int) (h : IL w a X) (hl : X.length ≤ 1000000000) :
    Calls Tryz.prog 14 #[.slice a X.length c] w (NcPost w X) := by
  obtain ⟨i0, hi0, hz0, hz1, hz2⟩ := info_of Tryz.info64
  have HI := hide (And.intro hi0 (And.intro hz0 (And.intro hz1 hz2)))
  clear hi0 hz0 hz1 hz2
  have HC := hide h
  have hmk := run_make0 (P := Tryz.prog) 54 64 (.int .i32 0) 4 Tryz.underlying54 Tryz.info64 X.length (by omega) (by omega)
  have HLL := hide hl
  clear h
  go_enter Tryz.func14, Tryz.ntmps14
  go_upto_region 2 with fail
  have HR := hide (World.ownsRow_made (base := w.heap.size) (e := 64) (size := 1) w (madeCells #[.int .i32 0] X.length) X.length (Nat.le_refl _) (by unfold maxLen; omega) (by rw [size_madeCells, Nat.mul_one]))
  have HB := hide (be1 w (.cells (madeCells #[.int .i32 0] X.length) 64))
  generalize w.alloc (.cells (madeCells #[.int .i32 0] X.length) 64) = w1 at *
  clear hmk
  go_wp2
  go_loopw [4, 6, 7, 8, 14] (fun s4 _ _ _ s14 wx => ∃ (i : Nat) (a2 : Option Addr) (c2 : Nat), s14 = .int .i64 i ∧ s4 = .slice a2 i c2 ∧ i ≤ X.length ∧ Hid (ncE (X.drop i) = ncE X) ∧ wx.ownsRow w.heap.size 64 1 (.slice a2 i c2) i (((X.take i).map fun d => (fromP d).1).map (Value.int .i32)) ∧ Below w.heap.size w wx) (fun _ _ _ _ s14 _ => X.length - (intOf s14).toNat)
  case atStart => exact ⟨0, _, _, rfl, rfl, Nat.zero_le _, hide rfl, HR.out, HB.out⟩
  case round =>
    clear HR HB
    obtain ⟨i, a2, c2, rfl, rfl, hi, HD, hr, hb⟩ := hrel
    have HR := hide hr
    have HB := hide hb
    clear hr hb
    by_cases hlt : i < X.length
    · obtain ⟨x, hx⟩ : ∃ x, X[i]? = some x := ⟨_, List.getElem?_eq_getElem hlt⟩
      have hdr : X.drop i = x :: X.drop (i + 1) := by
        rw [List.drop_eq_getElem_cons hlt]
        rw [List.getElem?_eq_getElem hlt] at hx
        cases hx
        rfl
      have HTK := hide (show X.take (i + 1) = X.take i ++ [x] by rw [List.take_add_one, hx]; rfl)
      rw [hdr] at HD
      replace HD := hide (show (if (fromP x).2 = 0 then ncE (X.drop (i + 1)) else (fromP x).2) = ncE X from HD.out)
      obtain ⟨g, o, ea, hc⟩ := (HC.out.below HB.out) i x hx
      cases ea
      clear hx hdr
      have h1 : decide ((i : Int) < (X.length : Int)) = true := by simp; omega
      have h1n : decide (i < X.length) = true := by simp; omega
      have h2 : decide ((i : Int) < 0) = false := by simp
      have h3 : (i : Int) < (X.length : Int) := by omega
      have h4 : IntKind.i64.wrap ((i : Int) + 1) = (i : Int) + 1 := by rw [IntKind.wrap_i64]; omega
      go_wp2_with fail
      refine (fromDimacs_any _ x).mono ?_
      rintro e w' ⟨rfl, hw⟩
      rw [hw]
      clear hw w'
      have HFP := hide (show ∀ y, (fromP x).1 = y → (X.take (i + 1)).map (fun d => (fromP d).1) = (X.take i).map (fun d => (fromP d).1) ++ [y] from fun y hy => by rw [HTK.out, List.map_append, ← hy]; rfl)
      generalize fromP x = q at *
      obtain ⟨l, er⟩ := q
      dsimp only at HD HFP ⊢
      by_cases her : er = 0
      · subst her
        rw [if_pos rfl] at HD
        replace HFP := hide (HFP.out l rfl)
        have HW := hide (own_kept HR.out (Ex.of (S := fun _ => False) (be1 wr (.cells #[.int .i32 l] 64))) (fun _ _ e => e))
        have HSZ := hide (show w.heap.size ≤ (wr.alloc (.cells #[.int .i32 l] 64)).heap.size from Nat.le_trans HB.out.size (be1 wr _).size)
        have HNC := hide (show ∀ (j : Nat) (u : Value), [Value.int .i32 l][j]? = some u → (wr.alloc (.cells #[.int .i32 l] 64)).cell? ((⟨wr.heap.size, 0, none⟩ : Addr).add j) = some u from fun j u hj => new_cells wr [.int .i32 l] 64 j u hj)
        have HB1 := hide (lec HB.out (be1 wr (.cells #[.int .i32 l] 64)))
        go_upto_region 9 with (at_builtin; go_loud (refine wpList_append_lies _ rfl (.tmp 26) (.tmp 28) 54 rfl w.heap.size 64 i0 _ 1 4 Tryz.underlying54 HI.out.1 HI.out.2.1 HI.out.2.2.1 HI.out.2.2.2 rfl (by decide) (.slice a2 i c2) i (((X.take i).map fun d => (fromP d).1).map (Value.int .i32)) rfl HW.out ⟨wr.heap.size, 0, none⟩ 1 1 [.int .i32 l] rfl rfl HNC.out (fun u hu => by simp at hu; subst hu; rfl) (by decide) (by have := HLL.out; unfold maxLen; omega) (by have := HLL.out; omega) HSZ.out _ rfl ?_; intro g3 cap3 w3 hr hg hat hlt2; have HR3 := hide hr; have HB3 := hide (show Below w.heap.size w w3 from HB1.out.trans ((Ex.ofGrown hg (S := fun k => Value.ownBlock (.slice a2 i c2) = some k) (fun k z => z.symm)).below HB1.out.size (fun k hk z => by have := (HR.out.lt k z).1; omega))); clear hr hg hat hlt2))
        replace HR3 := hide (show w3.ownsRow w.heap.size 64 1 (.slice (some ⟨g3, 0, none⟩) (i + 1) cap3) (i + 1) (((X.take (i + 1)).map fun d => (fromP d).1).map (Value.int .i32)) from by rw [HFP.out, List.map_append]; exact HR3.out)
        clear HW HSZ HNC HB1 HFP HTK HR HB
        go_wp2
        go_roundw
        case rel => exact ⟨i + 1, _, _, by simp, rfl, by omega, HD, HR3.out, HB3.out⟩
        case measure => simp [intOf]; omega
      · have heb : (er == 0) = false := by simpa using her
        rw [if_neg her] at HD
        have HPO := hide (show NcPost w X (.returned (.tuple #[.slice none 0 0, .int .i64 er])) wr from ⟨HB.out, .inl ⟨by rw [← HD.out]; exact her, by rw [← HD.out]⟩⟩)
        clear her
        go_wp2
        exact bodyPost_ret (v := .tuple #[.slice none 0 0, .int .i64 er]) (by simp [results, Tryz.results14, go_sem]) rfl HPO.out
    · obtain rfl : i = X.length := by omega
      have h1 : decide ((X.length : Int) < (X.length : Int)) = false := by simp
      have h1n : decide (X.length < X.length) = false := by simp
      have HPO := hide (show NcPost w X (.returned (.tuple #[.slice a2 X.length c2, .int .i64 0])) wr from ⟨HB.out, .inr ⟨by rw [← HD.out, List.drop_length]; rfl, a2, c2, rfl, by have := HR.out; rw [List.take_length] at this; exact this⟩⟩)
      clear hlt
      go_wp2
      exact bodyPost_ret (v := .tuple #[.slice a2 X.length c2, .int .i64 0]) (by simp [results, Tryz.results14, go_sem]) rfl HPO.out
end Go.Proofs.Qxb6500773aGreat
