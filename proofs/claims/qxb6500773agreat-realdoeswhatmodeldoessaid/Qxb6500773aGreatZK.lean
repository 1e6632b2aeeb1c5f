import Derived.Test.Qxb6500773aGreatZI
import Derived.Test.Qxb6500773aGreatLo5
import Derived.Test.Qxb6500773aGreatZD
import Derived.Deep.Upon
namespace Go.Proofs.Qxb6500773aGreat
set_option maxRecDepth 100000
open Go.RowKit

theorem cells_zero {P : Program} (a : Addr) (w : World) : (loadCells a 0).run P w = .ok #[] w := by simp [loadCells, loadCellsFrom]
theorem src_none {w : World} {a : Option Addr} {c : Nat} : Src Tryz.prog 1 54 (.slice a 0 c) 0 [] w :=
  ⟨.inl ⟨64, Tryz.underlying54⟩, fun w' => by cases a <;> simp [Builtin.lenOf], by cases a <;> simp [Builtin.firstCells, cells_zero], by cases a <;> simp [Builtin.firstCells, cells_zero], rfl, fun u hu => by cases hu⟩
theorem wpList_append_zero {P : Program} {w : World} {ops : Array Oper} {rest : List Oper} {o : Oper} {a : Act} {Q : Exit → Act → World → Prop} (hgd : o.guard = none) (s x : Operand) (t tx : TypeId)
    (ho : o.op = .call { callee := .builtin .append, args := #[s, x], argTypes := #[t, tx] }) (v u : Value) (hs : a.eval s = v) (hx : a.eval x = u)
    (hrun : (Builtin.append_ #[t, tx] o.type #[v, u]).run P w = .ok v w) (h : wpList P ops Q rest (a.put o.dst v) w) : wpList P ops Q (o :: rest) a w := by
  refine wpList_plain hgd fun K hK => ?_
  unfold Oper.wp execOp
  simp only [ho, resolve, invoke, builtin, Sem.run_bind, Sem.run_pure, Result.andThen_ok, List.map_toArray, List.map_cons, List.map_nil, hs, hx, hrun]
  exact hK _ _ h
theorem AR.same {w : World} {B b o : Nat} {va ve : Value} {L E : List Int} (h : AR w B b o va ve L E) : AR (w.setCell ⟨b, o, none⟩ va) B b o va ve L E ∧ Ex (fun k => k = b) w (w.setCell ⟨b, o, none⟩ va) ∧ ∀ j u, w.cell? ⟨b, j, none⟩ = some u → (w.setCell ⟨b, o, none⟩ va).cell? ⟨b, j, none⟩ = some u := by
  have e : Ex (fun k => k = b) w (w.setCell ⟨b, o, none⟩ va) := (Ex.refl (fun k => k = b) _).set (p := b) rfl _
  have hc : ∀ j u, w.cell? ⟨b, j, none⟩ = some u → (w.setCell ⟨b, o, none⟩ va).cell? ⟨b, j, none⟩ = some u := fun j u hu => by
    by_cases z : j = o
    · subst z
      rw [World.cell?_setCell_same _ _ _ h.c0]
      rw [h.c0] at hu
      exact hu
    · rw [World.cell?_setCell_other _ _ _ _ (fun z2 => by injection z2 with _ z2; exact z z2.symm)]
      exact hu
  exact ⟨⟨hc _ _ h.c0, hc _ _ h.c1, fun j => by rw [set_frozen]; exact h.f j, own_kept h.r0 e (fun k z y => h.a0 (y ▸ z)), own_kept h.r1 e (fun k z y => h.a1 (y ▸ z)), h.a0, h.a1, h.a2⟩, e, hc⟩
set_option linter.unusedSimpArgs false in
set_option maxRecDepth 100000 in
set_option maxHeartbeats 4000000 in
/-- cnf.arena.push of nothing -/
theorem push0_any (w : World) (B b o : Nat) (va ve : Value) (L E : List Int) (a' : Option Addr) (c' : Nat) (h : AR w B b o va ve L E) (hB : B ≤ w.heap.size) (hE : E.length ≤ 1000000000) :
    Calls Tryz.prog 149 #[.pointer (some ⟨b, o, none⟩), .slice a' 0 c'] w (PsPost w B b o va ve L E []) := by
  obtain ⟨i0, hi0, hz0, hz1, hz2⟩ := info_of Tryz.info64
  obtain ⟨a, c, rfl⟩ := own_form h.r0
  have hap := fun ty => run_append_nothing (P := Tryz.prog) w 53 54 ty 64 i0 Tryz.underlying53 hi0 a L.length c (own_capZ h.r0) (.slice a' 0 c') (by rw [hz1]; exact src_none)
  have HAP := hide hap
  have c0 := h.c0
  have f0 := h.f
  have HS := hide h.same
  have cf := hide (finish_any _ B b o _ ve L E h.same.1 (Nat.le_trans hB h.same.2.1.size) (by omega))
  clear h hB hE hi0 hz0 hz1 hz2 hap
  go_enter Tryz.func149, Tryz.ntmps149
  go_upto_region 1 with (at_builtin; go_loud (refine wpList_append_zero rfl (.tmp 8) (.tmp 9) 53 54 rfl (.slice a L.length c) (.slice a' 0 c') rfl rfl (HAP.out _) ?_))
  clear c0 f0
  generalize w.setCell ⟨b, o, none⟩ (.slice a L.length c) = w2 at *
  go_wp2_with fail
  refine cf.out.mono ?_
  rintro e w4 ⟨rfl, g8, c8, har, hex, hg8, hkp⟩
  have HPO := hide (show PsPost w B b o (.slice a L.length c) ve L E [] (.returned (.tuple #[])) w4 from by
    refine ⟨rfl, _, _, by rw [List.append_nil]; exact har, ?_, ?_, ?_, ?_⟩
    · exact (HS.out.2.1.mono fun k z => .inl z).trans (hex.mono fun k z => z.elim .inl (fun z => .inr (.inr z)))
    · exact fun j u h1 h2 hu => hkp j u h2 (HS.out.2.2 j u hu)
    · exact fun k z => .inl z
    · intro k z
      have : g8 = k := Option.some.inj z
      subst this
      exact hg8.imp id (fun z => Nat.le_trans HS.out.2.1.size z))
  clear har hex hg8 hkp cf HS
  go_wp2
  exact bodyPost_ret (v := .tuple #[]) (by simp [results, Tryz.results149, go_sem]) rfl HPO.out
theorem pushZ_any (w : World) (B b o : Nat) (va ve : Value) (L E : List Int) (a' : Option Addr) (c' : Nat) (C : List Int) (h : AR w B b o va ve L E) (hB : B ≤ w.heap.size) (hL : L.length + C.length ≤ 1000000000) (hE : E.length ≤ 1000000000) (hc : CL w a' C) :
    Calls Tryz.prog 149 #[.pointer (some ⟨b, o, none⟩), .slice a' C.length c'] w (PsPost w B b o va ve L E C) := by
  cases C with
  | nil => exact push0_any w B b o va ve L E a' c' h hB hE
  | cons x C =>
    obtain ⟨g, off, rfl, _⟩ := hc 0 x rfl
    exact push_any w B b o va ve L E g off c' (x :: C) h hB hL hE hc (by simp)
set_option linter.unusedSimpArgs false in
set_option maxRecDepth 100000 in
set_option maxHeartbeats 4000000 in
/-- cnf.Formula.Add -/
theorem fAddZ_any (w : World) (B b : Nat) (va ve : Value) (nv : Int) (L E : List Int) (a' : Option Addr) (c' : Nat) (C : List Int) (h : FF w B b va ve nv L E) (hB : B ≤ w.heap.size) (hL : L.length + C.length ≤ 1000000000) (hE : E.length ≤ 1000000000) (hc : CL w a' C) (hr : ∀ x ∈ C, I32 x) (hgb : ∀ g o, a' = some ⟨g, o, none⟩ → g ≠ b) :
    Calls Tryz.prog 103 #[.pointer (some ⟨b, 0, none⟩), .slice a' C.length c'] w (AdPost w B b va ve nv L E C) := by
  have HF := hide h
  have HBS := hide hB
  have HLL := hide hL
  have HEL := hide hE
  have HC := hide hc
  have HGB := hide hgb
  have ck := check_any w _ c' C hc hr (by omega)
  clear h hB hL hc hgb
  go_enter Tryz.func103, Tryz.ntmps103
  go_wp2_with fail
  refine ck.mono ?_
  rintro e w' ⟨rfl, hw⟩
  rw [hw]
  clear hw w' ck
  by_cases hk : chkP C = 0
  · have HK := hide hk
    have hcz := hide (chkP_zero hk)
    rw [hk]
    clear hk
    have h4 : decide (2147483647 ≤ (E.length : Int)) = false := by simp; omega
    have h4n : decide (2147483647 ≤ E.length) = false := by simp; omega
    go_wp2_with fail
    refine (numClauses_any w B b va ve L E HF.out.ar).mono ?_
    rintro e w' ⟨rfl, hw⟩
    rw [hw]
    clear hw w'
    go_wp2_with fail
    refine (maxVar_any w _ c' C HC.out hcz.out (by have := HLL.out; omega)).mono ?_
    rintro e w' ⟨rfl, hw⟩
    rw [hw]
    clear hw w'
    have hmx : 0 ≤ mxP C ∧ mxP C ≤ 16777215 := ⟨(mx_ge (C := C) (t := 0)).1, mx_le (by decide) (fun x hx => by have := hcz.out x hx; unfold LitOk at this; omega)⟩
    obtain ⟨t, ht⟩ : ∃ t, mxP C = t := ⟨_, rfl⟩
    have HT := hide ht
    rw [ht] at hmx ⊢
    clear ht
    have hw1 : IntKind.i64.wrap t = t := by rw [IntKind.wrap_i64]; omega
    have c0 := HF.out.c
    have f0 := HF.out.ar.f
    have hsub : IntKind.i64.wrap (((E.length + 1 : Nat) : Int) - 1) = (E.length : Int) := by rw [IntKind.wrap_i64]; omega
    have hsub2 : IntKind.i64.wrap ((E.length : Int) + 1 - 1) = (E.length : Int) := by rw [IntKind.wrap_i64]; omega
    by_cases hnt : nv < t
    · have hnb : decide (nv < t) = true := by simpa using hnt
      have HMV := hide (show mxV nv t = t by unfold mxV; rw [if_pos hnt])
      have hfs := HF.out.setNv t
      go_upto_region 9 with fail
      have HF2 := hide hfs.1
      have HX2 := hide hfs.2
      have HC2 := hide (HC.out.keep HX2.out (fun g o e z => HGB.out g o e z))
      clear hfs c0 f0
      generalize World.setCell w ⟨b, 0, none⟩ (.int .i64 t) = w2 at *
      go_wp2_with fail
      refine (pushZ_any w2 B b 1 va ve L E a' c' C HF2.out.ar (Nat.le_trans HBS.out HX2.out.size) HLL.out HEL.out HC2.out).mono ?_
      rintro e w3 ⟨rfl, va', ve', har, hex, hkp, hva, hve⟩
      have HF3 := hide (show FF w3 B b va' ve' (mxV nv t) (L ++ C) (E ++ [((L ++ C).length : Int)]) from ⟨har, by rw [HMV.out]; exact hkp 0 _ (by omega) (by omega) HF2.out.c⟩)
      have HX3 := hide (show Ex (fun k => k = b ∨ va.ownBlock = some k ∨ ve.ownBlock = some k) w w3 from (HX2.out.mono fun k z => .inl z).trans hex)
      have HVA := hide (show (∀ k, va'.ownBlock = some k → va.ownBlock = some k ∨ w.heap.size ≤ k) ∧ (∀ k, ve'.ownBlock = some k → ve.ownBlock = some k ∨ w.heap.size ≤ k) from ⟨fun k z => (hva k z).imp id (fun z => Nat.le_trans HX2.out.size z), fun k z => (hve k z).imp id (fun z => Nat.le_trans HX2.out.size z)⟩)
      clear har hex hkp hva hve
      go_wp2_with fail
      refine (numClauses_any w3 B b va' ve' (L ++ C) (E ++ [((L ++ C).length : Int)]) HF3.out.ar).mono ?_
      rintro e w' ⟨rfl, hw⟩
      rw [hw, List.length_append, show ([((L ++ C).length : Int)] : List Int).length = 1 from rfl]
      clear hw w'
      have HPO := hide (show AdPost w B b va ve nv L E C (.returned (.tuple #[.int .i64 E.length, .int .i64 0])) w3 from .inr ⟨HK.out, rfl, HX3.out, va', ve', by rw [HT.out]; exact HF3.out, HVA.out.1, HVA.out.2⟩)
      go_wp2
      exact bodyPost_ret (v := .tuple #[.int .i64 E.length, .int .i64 0]) (by simp [results, Tryz.results103, go_sem]) rfl HPO.out
    · have hnb : decide (nv < t) = false := by simpa using hnt
      have hnn : (nv < t) = False := by simpa using hnt
      have hnl : t ≤ nv := by omega
      have HMV := hide (show mxV nv t = nv by unfold mxV; rw [if_neg hnt])
      go_upto_region 9 with fail
      have HF2 := HF
      have HX2 := hide (Ex.refl (fun k => k = b) w)
      have HC2 := HC
      go_wp2_with fail
      refine (pushZ_any w B b 1 va ve L E a' c' C HF2.out.ar (Nat.le_trans HBS.out HX2.out.size) HLL.out HEL.out HC2.out).mono ?_
      rintro e w3 ⟨rfl, va', ve', har, hex, hkp, hva, hve⟩
      have HF3 := hide (show FF w3 B b va' ve' (mxV nv t) (L ++ C) (E ++ [((L ++ C).length : Int)]) from ⟨har, by rw [HMV.out]; exact hkp 0 _ (by omega) (by omega) HF2.out.c⟩)
      have HX3 := hide (show Ex (fun k => k = b ∨ va.ownBlock = some k ∨ ve.ownBlock = some k) w w3 from (HX2.out.mono fun k z => .inl z).trans hex)
      have HVA := hide (show (∀ k, va'.ownBlock = some k → va.ownBlock = some k ∨ w.heap.size ≤ k) ∧ (∀ k, ve'.ownBlock = some k → ve.ownBlock = some k ∨ w.heap.size ≤ k) from ⟨fun k z => (hva k z).imp id (fun z => Nat.le_trans HX2.out.size z), fun k z => (hve k z).imp id (fun z => Nat.le_trans HX2.out.size z)⟩)
      clear har hex hkp hva hve
      go_wp2_with fail
      refine (numClauses_any w3 B b va' ve' (L ++ C) (E ++ [((L ++ C).length : Int)]) HF3.out.ar).mono ?_
      rintro e w' ⟨rfl, hw⟩
      rw [hw, List.length_append, show ([((L ++ C).length : Int)] : List Int).length = 1 from rfl]
      clear hw w'
      have HPO := hide (show AdPost w B b va ve nv L E C (.returned (.tuple #[.int .i64 E.length, .int .i64 0])) w3 from .inr ⟨HK.out, rfl, HX3.out, va', ve', by rw [HT.out]; exact HF3.out, HVA.out.1, HVA.out.2⟩)
      go_wp2
      exact bodyPost_ret (v := .tuple #[.int .i64 E.length, .int .i64 0]) (by simp [results, Tryz.results103, go_sem]) rfl HPO.out
  · have hkb : (chkP C == 0) = false := by simpa using hk
    have HPO := hide (show AdPost w B b va ve nv L E C (.returned (.tuple #[.int .i64 (-1), .int .i64 (chkP C)])) w from .inl ⟨hk, rfl, rfl⟩)
    clear hk
    generalize chkP C = R at *
    go_wp2
    exact bodyPost_ret (v := .tuple #[.int .i64 (-1), .int .i64 R]) (by simp [results, Tryz.results103, go_sem]) rfl HPO.out
set_option linter.unusedSimpArgs false in
set_option maxRecDepth 100000 in
set_option maxHeartbeats 4000000 in
/-- cnf.Formula.AddDimacs -/
theorem addDimacsZ_any (w : World) (B b : Nat) (va ve : Value) (nv : Int) (L E : List Int) (a : Option Addr) (c : Nat) (X : List Int) (h : FF w B b va ve nv L E) (hB : B ≤ w.heap.size) (hL : L.length + X.length ≤ 1000000000) (hE : E.length ≤ 1000000000) (hc : IL w a X) :
    Calls Tryz.prog 32 #[.pointer (some ⟨b, 0, none⟩), .slice a X.length c] w (DaPost w B b va ve nv L E X) := by
  have HF := hide h
  have HBS := hide hB
  have HLL := hide hL
  have HEL := hide hE
  have cn := newClause_any w a c X hc (by omega)
  clear h hB hL hE hc
  go_enter Tryz.func32, Tryz.ntmps32
  go_wp2_with fail
  refine cn.mono ?_
  rintro e w2 ⟨hb2, hcase⟩
  rcases hcase with ⟨hk, rfl⟩ | ⟨hk, a2, c2, rfl, hr2⟩
  · have hkb : (ncE X == 0) = false := by simpa using hk
    have HPO := hide (show DaPost w B b va ve nv L E X (.returned (.tuple #[.int .i64 (-1), .int .i64 (ncE X)])) w2 from .inl ⟨hk, rfl, hb2⟩)
    clear hk hb2 cn
    generalize ncE X = R at *
    go_wp2
    exact bodyPost_ret (v := .tuple #[.int .i64 (-1), .int .i64 R]) (by simp [results, Tryz.results32, go_sem]) rfl HPO.out
  · have HK := hide hk
    have HB2 := hide hb2
    have HF2 := hide (HF.out.below hb2)
    have HC2 := hide (row_cl hr2)
    have HLK := hide (ncE_zero hk)
    have HG2 := hide (show ∀ g o, a2 = some ⟨g, o, none⟩ → w.heap.size ≤ g from fun g o e => (hr2.lt g (by rw [e]; rfl)).1)
    have hlen : X.length = (X.map fun d => (fromP d).1).length := by rw [List.length_map]
    clear hk hb2 hr2 cn
    have HLN := hide hlen
    have HLL2 := hide (show L.length + (X.map fun d => (fromP d).1).length ≤ 1000000000 by rw [← hlen]; exact HLL.out)
    rw [hlen]
    clear hlen
    have HPP := hide (show ∀ w3, AdPost w2 B b va ve nv L E (X.map fun d => (fromP d).1) (.returned (.tuple #[.int .i64 E.length, .int .i64 0])) w3 → DaPost w B b va ve nv L E X (.returned (.tuple #[.int .i64 E.length, .int .i64 0])) w3 from fun w3 hp => by
      rcases hp with ⟨z, -, -⟩ | ⟨-, -, hex, va', ve', hff, h1, h2⟩
      · exact absurd (chkP_lit HLK.out) z
      · exact .inr ⟨HK.out, rfl, (Ex.of HB2.out).trans hex, va', ve', hff, fun k z => (h1 k z).imp id (fun z => Nat.le_trans HB2.out.size z), fun k z => (h2 k z).imp id (fun z => Nat.le_trans HB2.out.size z)⟩)
    have HLT := hide (show b < w.heap.size from HF.out.ar.lt)
    generalize hCC : (X.map fun d => (fromP d).1) = CC at *
    clear hCC
    go_wp2_with fail
    refine (fAddZ_any w2 B b va ve nv L E a2 c2 CC HF2.out (Nat.le_trans HBS.out HB2.out.size) HLL2.out HEL.out HC2.out (fun x hx => by have := HLK.out x hx; unfold LitOk at this; unfold I32; omega) (fun g o e => by have := HG2.out g o e; have := HLT.out; omega)).mono ?_
    rintro e w3 hp
    rcases hp with ⟨z, -, -⟩ | ⟨hk, rfl, hrest⟩
    · exact absurd (chkP_lit HLK.out) z
    · have HPO := hide (HPP.out w3 (.inr ⟨hk, rfl, hrest⟩))
      clear hk hrest HPP
      go_wp2
      exact bodyPost_ret (v := .tuple #[.int .i64 E.length, .int .i64 0]) (by simp [results, Tryz.results32, go_sem]) rfl HPO.out
def PaZ (w : World) (B b : Nat) (va ve vd : Value) (L E : List Int) (D : List Bool) (C : List Int) (d : Bool) (e : Ending) (w' : World) : Prop :=
  (chkP C ≠ 0 ∧ e = .returned (.int .i64 (chkP C)) ∧ w' = w) ∨
  (chkP C = 0 ∧ e = .returned (.int .i64 0) ∧ Ex (fun k => k = b ∨ va.ownBlock = some k ∨ ve.ownBlock = some k ∨ vd.ownBlock = some k) w w' ∧ ∃ va' ve' vd', PF w' B b va' ve' vd' (L ++ C) (E ++ [((L ++ C).length : Int)]) (D ++ [d]) ∧ (∀ k, va'.ownBlock = some k → va.ownBlock = some k ∨ w.heap.size ≤ k) ∧ (∀ k, ve'.ownBlock = some k → ve.ownBlock = some k ∨ w.heap.size ≤ k) ∧ (∀ k, vd'.ownBlock = some k → vd.ownBlock = some k ∨ w.heap.size ≤ k))
set_option linter.unusedSimpArgs false in
set_option maxRecDepth 100000 in
set_option maxHeartbeats 4000000 in
/-- cnf.Proof.append -/
theorem pfAppendZ_any (w : World) (B b : Nat) (va ve vd : Value) (L E : List Int) (D : List Bool) (a' : Option Addr) (c' : Nat) (C : List Int) (d : Bool) (h : PF w B b va ve vd L E D) (hB : B ≤ w.heap.size) (hL : L.length + C.length ≤ 1000000000) (hE : E.length ≤ 1000000000) (hD : D.length ≤ 1000000000) (hc : CL w a' C) (hr : ∀ x ∈ C, I32 x) :
    Calls Tryz.prog 125 #[.pointer (some ⟨b, 0, none⟩), .slice a' C.length c', .bool d] w (PaZ w B b va ve vd L E D C d) := by
  obtain ⟨i0, hi0, hz0, hz1, hz2⟩ := info_of Tryz.info4
  have HI := hide (And.intro hi0 (And.intro hz0 (And.intro hz1 hz2)))
  clear hi0 hz0 hz1 hz2
  have HP := hide h
  have HBS := hide hB
  have HLL := hide hL
  have HEL := hide hE
  have HDL := hide hD
  have HC := hide hc
  have ck := check_any w _ c' C hc hr (by omega)
  obtain ⟨ad, cd, rfl⟩ := own_form h.r2
  clear h hB hL hc hE hD
  go_enter Tryz.func125, Tryz.ntmps125
  go_wp2_with fail
  refine ck.mono ?_
  rintro e w' ⟨rfl, hw⟩
  rw [hw]
  clear hw w' ck
  by_cases hk : chkP C = 0
  · have HK := hide hk
    rw [hk]
    clear hk
    go_wp2_with fail
    refine (pushZ_any w B b 0 va ve L E a' c' C HP.out.ar HBS.out HLL.out HEL.out HC.out).mono ?_
    rintro e w8 ⟨rfl, va', ve', har, hex, hkp, hva, hve⟩
    have HPF8 := hide (show PF w8 B b va' ve' (.slice ad D.length cd) (L ++ C) (E ++ [((L ++ C).length : Int)]) D from
      ⟨har, hkp 2 _ (by omega) (by omega) HP.out.c2, own_kept HP.out.r2 hex (fun j z e => e.elim (fun e => HP.out.a3 (e ▸ z)) (fun e => e.elim (fun e => HP.out.a4 j e z) (fun e => HP.out.a5 j e z))), HP.out.a3, fun k z y => (hva k z).elim (fun z => HP.out.a4 k z y) (fun z => own_far HP.out.r2 z y), fun k z y => (hve k z).elim (fun z => HP.out.a5 k z y) (fun z => own_far HP.out.r2 z y)⟩)
    have HX8 := hide hex
    have HVA := hide hva
    have HVE := hide hve
    clear har hex hkp hva hve
    have z2 := HPF8.out.c2
    have zf := HPF8.out.ar.f
    have HPW := hide (HPF8.out.below (be1 w8 (.cells #[.bool d] 4)))
    have HSZ := hide (show B ≤ (w8.alloc (.cells #[.bool d] 4)).heap.size from Nat.le_trans (Nat.le_trans HBS.out HX8.out.size) (be1 w8 _).size)
    have HNC := hide (show ∀ (j : Nat) (u : Value), [Value.bool d][j]? = some u → (w8.alloc (.cells #[.bool d] 4)).cell? ((⟨w8.heap.size, 0, none⟩ : Addr).add j) = some u from fun j u hj => new_cells w8 [.bool d] 4 j u hj)
    go_wp2_with (at_builtin; go_loud (refine wpList_append_lies _ rfl (.tmp 22) (.tmp 24) 77 rfl B 4 i0 _ 1 1 Tryz.underlying77 HI.out.1 HI.out.2.1 HI.out.2.2.1 HI.out.2.2.2 rfl (by decide) (.slice ad D.length cd) D.length (D.map Value.bool) rfl HPW.out.r2 ⟨w8.heap.size, 0, none⟩ 1 1 [.bool d] rfl rfl HNC.out (fun u hu => by simp at hu; subst hu; rfl) (by decide) (by have := HDL.out; unfold maxLen; omega) (by have := HDL.out; omega) HSZ.out _ rfl ?_; intro g cap w9 hr hg hat hlt2; have HAT := hide (show Value.ownBlock (.slice ad D.length cd) = some g ∨ w.heap.size ≤ g from hat.imp id (fun z => by rw [z]; exact Nat.le_trans HX8.out.size (be1 w8 _).size)); have HPD := hide (HPF8.out.del1 (be1 w8 (.cells #[.bool d] 4)) hr hg hat); have z2' := (show w9.cell? ⟨b, 2, none⟩ = some (.slice ad D.length cd) from (Ex.ofGrown hg (S := fun k => Value.ownBlock (.slice ad D.length cd) = some k) (fun k z => z.symm)).cell HPW.out.a3 HPW.out.c2); have zf' := (show w9.frozen? ⟨b, 2, none⟩ = false from ((Ex.ofGrown hg (S := fun k => Value.ownBlock (.slice ad D.length cd) = some k) (fun k z => z.symm)).frozen HPW.out.a3 HPW.out.ar.lt).trans (HPW.out.ar.f 2)); clear hr hg hat))
    have HPO := hide (show PaZ w B b va ve (.slice ad D.length cd) L E D C d (.returned (.int .i64 0)) _ from .inr ⟨HK.out, rfl, (HX8.out.mono fun k z => z.elim .inl (fun z => .inr (z.elim .inl (fun z => .inr (.inl z))))).trans (HPD.out.2.mono fun k z => z.elim .inl (fun z => .inr (.inr (.inr z)))), _, _, _, HPD.out.1, HVA.out, HVE.out, fun k z => by
      have e : g = k := Option.some.inj z
      subst e
      exact HAT.out⟩)
    exact bodyPost_ret (v := .int .i64 0) (by simp [results, Tryz.results125, go_sem]) rfl HPO.out
  · have hkb : (chkP C == 0) = false := by simpa using hk
    have HPO := hide (show PaZ w B b va ve (.slice ad D.length cd) L E D C d (.returned (.int .i64 (chkP C))) w from .inl ⟨hk, rfl, rfl⟩)
    clear hk
    generalize chkP C = R at *
    go_wp2
    exact bodyPost_ret (v := .int .i64 R) (by simp [results, Tryz.results125, go_sem]) rfl HPO.out
set_option linter.unusedSimpArgs false in
set_option maxRecDepth 100000 in
set_option maxHeartbeats 4000000 in
/-- cnf.Proof.Add -/
theorem pfAddZ_any (w : World) (B b : Nat) (va ve vd : Value) (L E : List Int) (D : List Bool) (a' : Option Addr) (c' : Nat) (C : List Int) (h : PF w B b va ve vd L E D) (hB : B ≤ w.heap.size) (hL : L.length + C.length ≤ 1000000000) (hE : E.length ≤ 1000000000) (hD : D.length ≤ 1000000000) (hc : CL w a' C) (hr : ∀ x ∈ C, I32 x) :
    Calls Tryz.prog 52 #[.pointer (some ⟨b, 0, none⟩), .slice a' C.length c'] w (PaZ w B b va ve vd L E D C false) := by
  have ca := hide (pfAppendZ_any w B b va ve vd L E D a' c' C false h hB hL hE hD hc hr)
  clear h hB hL hE hD hc hr
  go_enter Tryz.func52, Tryz.ntmps52
  go_wp2_with fail
  refine ca.out.mono ?_
  rintro e w' hp
  obtain ⟨R, hR⟩ : ∃ R, e = .returned (.int .i64 R) := by
    rcases hp with ⟨-, e1, -⟩ | ⟨-, e1, -⟩
    · exact ⟨_, e1⟩
    · exact ⟨_, e1⟩
  subst hR
  have HPO := hide hp
  clear hp ca
  go_wp2
  exact bodyPost_ret (v := .int .i64 R) (by simp [results, Tryz.results52, go_sem]) rfl HPO.out
set_option linter.unusedSimpArgs false in
set_option maxRecDepth 100000 in
set_option maxHeartbeats 4000000 in
/-- cnf.Proof.Delete -/
theorem pfDelZ_any (w : World) (B b : Nat) (va ve vd : Value) (L E : List Int) (D : List Bool) (a' : Option Addr) (c' : Nat) (C : List Int) (h : PF w B b va ve vd L E D) (hB : B ≤ w.heap.size) (hL : L.length + C.length ≤ 1000000000) (hE : E.length ≤ 1000000000) (hD : D.length ≤ 1000000000) (hc : CL w a' C) (hr : ∀ x ∈ C, I32 x) :
    Calls Tryz.prog 54 #[.pointer (some ⟨b, 0, none⟩), .slice a' C.length c'] w (PaZ w B b va ve vd L E D C true) := by
  have ca := hide (pfAppendZ_any w B b va ve vd L E D a' c' C true h hB hL hE hD hc hr)
  clear h hB hL hE hD hc hr
  go_enter Tryz.func54, Tryz.ntmps54
  go_wp2_with fail
  refine ca.out.mono ?_
  rintro e w' hp
  obtain ⟨R, hR⟩ : ∃ R, e = .returned (.int .i64 R) := by
    rcases hp with ⟨-, e1, -⟩ | ⟨-, e1, -⟩
    · exact ⟨_, e1⟩
    · exact ⟨_, e1⟩
  subst hR
  have HPO := hide hp
  clear hp ca
  go_wp2
  exact bodyPost_ret (v := .int .i64 R) (by simp [results, Tryz.results54, go_sem]) rfl HPO.out
end Go.Proofs.Qxb6500773aGreat
