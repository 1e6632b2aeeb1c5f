import Derived.Test.Qxb6500778aE3
import Derived.Laws.BytesArg
import Derived.Deep.CutBlock
namespace Go.Proofs.Qxb6500778a
open Go.RowKit

structure Tok where
  k : Int
  q : Int
  x : ByteArray
  v : Int
def tokV (t : Tok) : Value := .agg #[.int .i64 t.k, .int .i64 t.q, .string t.x, .int .i64 t.v]
/-- A token in a block of its own. -/
structure TB (w : World) (r : Nat) (t : Tok) : Prop where
  c0 : w.cell? ⟨r, 0, none⟩ = some (.int .i64 t.k)
  c1 : w.cell? ⟨r, 1, none⟩ = some (.int .i64 t.q)
  c2 : w.cell? ⟨r, 2, none⟩ = some (.string t.x)
  c3 : w.cell? ⟨r, 3, none⟩ = some (.int .i64 t.v)
  fz : ∀ j, w.frozen? ⟨r, j, none⟩ = false
section
variable {w w' : World} {r : Nat} {t : Tok}
theorem TB.put0 (h : TB w r t) (k' : Int) : TB (w.setCell ⟨r, 0, none⟩ (.int .i64 k')) r { t with k := k' } := by
  refine ⟨?_, ?_, ?_, ?_, fun j => by rw [set_frozen]; exact h.fz j⟩
  all_goals simp [go_sem, h.c0, h.c1, h.c2, h.c3]
theorem TB.put2 (h : TB w r t) (x' : ByteArray) : TB (w.setCell ⟨r, 2, none⟩ (.string x')) r { t with x := x' } := by
  refine ⟨?_, ?_, ?_, ?_, fun j => by rw [set_frozen]; exact h.fz j⟩
  all_goals simp [go_sem, h.c0, h.c1, h.c2, h.c3]
theorem TB.put3 (h : TB w r t) (v' : Int) : TB (w.setCell ⟨r, 3, none⟩ (.int .i64 v')) r { t with v := v' } := by
  refine ⟨?_, ?_, ?_, ?_, fun j => by rw [set_frozen]; exact h.fz j⟩
  all_goals simp [go_sem, h.c0, h.c1, h.c2, h.c3]
theorem TB.keep (h : TB w r t) {S : Nat → Prop} (ex : Ex S w w') (hr : ¬ S r) : TB w' r t :=
  have hl : r < w.heap.size := World.block_lt_of_cell? _ _ h.c0
  ⟨ex.cell hr h.c0, ex.cell hr h.c1, ex.cell hr h.c2, ex.cell hr h.c3, fun j => (ex.frozen hr hl).trans (h.fz j)⟩
end
theorem TB.new (w : World) (t : Tok) : TB (w.alloc (.cells #[.int .i64 t.k, .int .i64 t.q, .string t.x, .int .i64 t.v] 87)) w.heap.size t := by
  have n := fun j u h => new_cells w [.int .i64 t.k, .int .i64 t.q, .string t.x, .int .i64 t.v] 87 j u h
  exact ⟨n 0 _ rfl, n 1 _ rfl, n 2 _ rfl, n 3 _ rfl, fun j => by simp [go_sem]⟩
def wlW : List Int → Nat
  | [] => 0
  | c :: r => if wbP c = true then wlW r + 1 else 0
theorem wlW_le : ∀ (s : List Int), wlW s ≤ s.length
  | [] => Nat.le_refl _
  | c :: r => by
    have := wlW_le r
    rw [wlW, List.length_cons]
    split <;> omega
/-- A word's token. -/
def wdT (c : Int) (q : Nat) (word : List Int) : Tok :=
  if dgB word = true then ⟨2, q, strOfNums word, dgV word⟩
  else if (dgB (word.drop 1) && (c == 114)) = true then ⟨3, q, strOfNums word, dgV (word.drop 1)⟩
  else ⟨1, q, strOfNums word, 0⟩
def nxT (s : List Int) (o : Nat) : Tok × Nat :=
  let q := o + skS false (s.drop o)
  match s[q]? with
  | none => (⟨0, q, ⟨#[]⟩, 0⟩, q)
  | some c => if c = 47 then (⟨4, q, ⟨#[]⟩, 0⟩, q + 1) else if c = 123 then (⟨5, q, ⟨#[]⟩, 0⟩, q + 1) else if c = 125 then (⟨6, q, ⟨#[]⟩, 0⟩, q + 1)
    else if wbP c = false then (⟨7, q, ⟨#[]⟩, 0⟩, q + 1) else (wdT c q ((s.drop q).take (wlW (s.drop q))), q + wlW (s.drop q))
theorem skS_le : ∀ (b : Bool) (l : List Int), skS b l ≤ l.length
  | _, [] => by simp [skS]
  | true, c :: r => by
    have h1 := skS_le false r
    have h2 := skS_le true r
    rw [skS, List.length_cons]
    split <;> omega
  | false, c :: r => by
    have h1 := skS_le false r
    have h2 := skS_le true r
    rw [skS, List.length_cons]
    split
    · omega
    · split <;> omega
theorem q_le (s : List Int) (o : Nat) (h : o ≤ s.length) : o + skS false (s.drop o) ≤ s.length := by
  have := skS_le false (s.drop o)
  rw [List.length_drop] at this
  omega
set_option maxRecDepth 100000 in
set_option maxHeartbeats 4000000 in
theorem next_end {R : Nat → Option Value} (w : World) (p : Nat) (a : Option Addr) (cp : Nat) (s : List Int) (o q : Nat) (h : LX R w p a cp s o) (ho : o ≤ s.length) (hl : s.length ≤ 9223372036854775807) (hq : o + skS false (s.drop o) = q) (hE : s.length ≤ q) :
    Calls Try.prog 51 #[.pointer (some ⟨p, 0, none⟩)] w fun e w' => e = .returned (tokV ⟨0, q, ⟨#[]⟩, 0⟩) ∧ Ex (fun k => k = p) w w' ∧ LX R w' p a cp s q := by
  have d1 : decide (s.length ≤ q) = true := decide_eq_true hE
  clear hE
  have hqs : q ≤ s.length := by rw [← hq]; exact q_le s o ho
  have HX := hide h
  clear h
  go_enter Try.func51, Try.ntmps51
  go_wp2_with fail
  have hr0 := TB.new w ⟨0, 0, ⟨#[]⟩, 0⟩
  have HX0 := hide (HX.out.new ((Ex.refl _ w).alloc (.cells #[.int .i64 0, .int .i64 0, .string ⟨#[]⟩, .int .i64 0] 87)))
  have HE0 : Hid (Ex (fun k => k = p) w (w.alloc (.cells #[.int .i64 0, .int .i64 0, .string ⟨#[]⟩, .int .i64 0] 87))) := (Ex.refl _ _).alloc _
  have hpr : p < w.heap.size := World.block_lt_of_cell? _ _ HX.out.c0
  obtain ⟨r0, hrr⟩ : ∃ r, w.heap.size = r := ⟨_, rfl⟩
  have HRR : Hid (w.heap.size ≤ r0) := by rw [← hrr]; exact Nat.le_refl _
  rw [hrr] at hr0 hpr ⊢
  refine (skip_any _ p a cp s o HX0.out ho hl).mono ?_
  rintro e w1 ⟨rfl, hex, hlx⟩
  simp only []
  rw [hq] at hlx
  have hR := hr0.keep hex (by omega)
  have hr1 : r0 < w1.heap.size := World.block_lt_of_cell? _ _ hR.c0
  have HX00 := HX
  have hs2 := (Ex.refl (fun _ => False) w1).alloc (.cells #[.int .i64 0, .int .i64 (q : Int), .string ⟨#[]⟩, .int .i64 0] 87)
  have HX2 := hide (hlx.new hs2)
  have HR2 := hide (hR.keep hs2 (fun e => e))
  have HT : Hid (TB (w1.alloc (.cells #[.int .i64 0, .int .i64 (q : Int), .string ⟨#[]⟩, .int .i64 0] 87)) w1.heap.size ⟨0, q, ⟨#[]⟩, 0⟩) := TB.new w1 ⟨0, q, ⟨#[]⟩, 0⟩
  have HE2 := hide ((HE0.out.trans hex).trans2 hs2 (fun j e => e.elim))
  have l1 := hlx.c1
  clear hr0 hrr HX HX0 HE0 hex hR hs2 hlx
  go_upto_region 3 with fail
  generalize w1.alloc (.cells #[.int .i64 0, .int .i64 (q : Int), .string ⟨#[]⟩, .int .i64 0] 87) = w2 at *
  generalize w1.heap.size = r1 at *
  clear l1
  have HR1 : Hid (w.heap.size ≤ r1) := by have := HRR.out; show _ ≤ _; omega
  have l0 := HX2.out.c0
  have l1 := HX2.out.c1
  go_upto_region 3 with fail
  go_quiet (fail)
  have HX3 := hide (HX2.out.drewN nq)
  have HR3 := hide (HR2.out.keep (S := fun _ => False) ((Ex.refl _ w2).drewN nq) (fun e => e))
  have HT3 := hide (HT.out.keep (S := fun _ => False) ((Ex.refl _ w2).drewN nq) (fun e => e))
  have HE3 : Hid (Ex (fun k => k = p) w (w2.drewN nq)) := HE2.out.drewN nq
  clear l0 l1 HX2 HR2 HT HE2
  generalize w2.drewN nq = w3 at *
  have HX2 := HX3
  have HR2 := HR3
  have HT := HT3
  have HE2 := HE3
  clear HX3 HR3 HT3 HE3
  have R0 := HR2.out.c0
  have F0 := HR2.out.fz 0
  have T0 := HT.out.c0
  have R1 := HR2.out.c1
  have F1 := HR2.out.fz 1
  have T1 := HT.out.c1
  have R2 := HR2.out.c2
  have F2 := HR2.out.fz 2
  have T2 := HT.out.c2
  have R3 := HR2.out.c3
  have F3 := HR2.out.fz 3
  have T3 := HT.out.c3
  have HXF := fun (y0 y1 y2 y3 : Value) => hide ((((HX2.out.otherN HX00.out HRR.out 0 y0).otherN HX00.out HRR.out 1 y1).otherN HX00.out HRR.out 2 y2).otherN HX00.out HRR.out 3 y3)
  have HEF := fun (y0 y1 y2 y3 : Value) => hide ((((HE2.out.setNew (p := r0) (j := 0) HRR.out y0).setNew (p := r0) (j := 1) HRR.out y1).setNew (p := r0) (j := 2) HRR.out y2).setNew (p := r0) (j := 3) HRR.out y3)
  go_wp2
  exact bodyPost_ret (v := tokV ⟨0, q, ⟨#[]⟩, 0⟩) (by simp [results, Try.results51, go_sem, tokV, R0, R1, R2, R3]) rfl ⟨rfl, (HEF _ _ _ _).out, (HXF _ _ _ _).out⟩
set_option maxRecDepth 100000 in
set_option maxHeartbeats 4000000 in
theorem next_mark {R : Nat → Option Value} (w : World) (p : Nat) (a : Option Addr) (cp : Nat) (s : List Int) (o q : Nat) (h : LX R w p a cp s o) (ho : o ≤ s.length) (hl : s.length ≤ 9223372036854775807) (hq : o + skS false (s.drop o) = q) (c K : Int) (hc : s[q]? = some c) (hK : c = 47 ∧ K = 4 ∨ c = 123 ∧ K = 5 ∨ c = 125 ∧ K = 6 ∨ (c ≠ 47 ∧ c ≠ 123 ∧ c ≠ 125 ∧ wbP c = false) ∧ K = 7) :
    Calls Try.prog 51 #[.pointer (some ⟨p, 0, none⟩)] w fun e w' => e = .returned (tokV ⟨K, q, ⟨#[]⟩, 0⟩) ∧ Ex (fun k => k = p) w w' ∧ LX R w' p a cp s (q + 1) := by
  have hlt : q < s.length := (List.getElem?_eq_some_iff.1 hc).1
  have d1 : decide (s.length ≤ q) = false := decide_eq_false (by omega)
  have HC := hide hc
  clear hc
  have HK := hide hK
  clear hK
  have hqs : q ≤ s.length := by rw [← hq]; exact q_le s o ho
  have HX := hide h
  clear h
  go_enter Try.func51, Try.ntmps51
  go_wp2_with fail
  have hr0 := TB.new w ⟨0, 0, ⟨#[]⟩, 0⟩
  have HX0 := hide (HX.out.new ((Ex.refl _ w).alloc (.cells #[.int .i64 0, .int .i64 0, .string ⟨#[]⟩, .int .i64 0] 87)))
  have HE0 : Hid (Ex (fun k => k = p) w (w.alloc (.cells #[.int .i64 0, .int .i64 0, .string ⟨#[]⟩, .int .i64 0] 87))) := (Ex.refl _ _).alloc _
  have hpr : p < w.heap.size := World.block_lt_of_cell? _ _ HX.out.c0
  obtain ⟨r0, hrr⟩ : ∃ r, w.heap.size = r := ⟨_, rfl⟩
  have HRR : Hid (w.heap.size ≤ r0) := by rw [← hrr]; exact Nat.le_refl _
  rw [hrr] at hr0 hpr ⊢
  refine (skip_any _ p a cp s o HX0.out ho hl).mono ?_
  rintro e w1 ⟨rfl, hex, hlx⟩
  simp only []
  rw [hq] at hlx
  have hR := hr0.keep hex (by omega)
  have hr1 : r0 < w1.heap.size := World.block_lt_of_cell? _ _ hR.c0
  have HX00 := HX
  have hs2 := (Ex.refl (fun _ => False) w1).alloc (.cells #[.int .i64 0, .int .i64 (q : Int), .string ⟨#[]⟩, .int .i64 0] 87)
  have HX2 := hide (hlx.new hs2)
  have HR2 := hide (hR.keep hs2 (fun e => e))
  have HT : Hid (TB (w1.alloc (.cells #[.int .i64 0, .int .i64 (q : Int), .string ⟨#[]⟩, .int .i64 0] 87)) w1.heap.size ⟨0, q, ⟨#[]⟩, 0⟩) := TB.new w1 ⟨0, q, ⟨#[]⟩, 0⟩
  have HE2 := hide ((HE0.out.trans hex).trans2 hs2 (fun j e => e.elim))
  have l1 := hlx.c1
  clear hr0 hrr HX HX0 HE0 hex hR hs2 hlx
  go_upto_region 3 with fail
  generalize w1.alloc (.cells #[.int .i64 0, .int .i64 (q : Int), .string ⟨#[]⟩, .int .i64 0] 87) = w2 at *
  generalize w1.heap.size = r1 at *
  clear l1
  have HR1 : Hid (w.heap.size ≤ r1) := by have := HRR.out; show _ ≤ _; omega
  have l0 := HX2.out.c0
  have l1 := HX2.out.c1
  go_upto_region 3 with fail
  go_quiet (fail)
  have HX3 := hide (HX2.out.drewN nq)
  have HR3 := hide (HR2.out.keep (S := fun _ => False) ((Ex.refl _ w2).drewN nq) (fun e => e))
  have HT3 := hide (HT.out.keep (S := fun _ => False) ((Ex.refl _ w2).drewN nq) (fun e => e))
  have HE3 : Hid (Ex (fun k => k = p) w (w2.drewN nq)) := HE2.out.drewN nq
  clear l0 l1 HX2 HR2 HT HE2
  generalize w2.drewN nq = w3 at *
  have HX2 := HX3
  have HR2 := HR3
  have HT := HT3
  have HE2 := HE3
  clear HX3 HR3 HT3 HE3
  have l0 := HX2.out.c0
  have l1 := HX2.out.c1
  obtain ⟨g, off, ha, cx⟩ := HX2.out.src q c HC.out
  subst ha
  have hki : (q : Int) < (s.length : Int) := by omega
  go_upto_region 5 with fail
  go_quiet (fail)
  have HX3 := hide (HX2.out.drewN nq)
  have HR3 := hide (HR2.out.keep (S := fun _ => False) ((Ex.refl _ w3).drewN nq) (fun e => e))
  have HT3 := hide (HT.out.keep (S := fun _ => False) ((Ex.refl _ w3).drewN nq) (fun e => e))
  have HE3 : Hid (Ex (fun k => k = p) w (w3.drewN nq)) := HE2.out.drewN nq
  clear l0 l1 cx HX2 HR2 HT HE2
  generalize w3.drewN nq = w4 at *
  have HX2 := HX3
  have HR2 := HR3
  have HT := HT3
  have HE2 := HE3
  clear HX3 HR3 HT3 HE3
  have T0 := HT.out.c0
  have TF0 := HT.out.fz 0
  have hx5 := (HX2.out.otherN HX00.out HR1.out 0 (.int .i64 K)).off (q + 1)
  have hs5 := (Ex.refl (fun k => k = r1) w4).set (p := r1) (j := 0) rfl (.int .i64 K)
  have hs6 := (Ex.refl (fun k => k = p) (w4.setCell ⟨r1, 0, none⟩ (.int .i64 K))).set (p := p) (j := 1) rfl (.int .i64 ((q + 1 : Nat) : Int))
  have ht5 := (HT.out.put0 K).keep hs6 (by omega)
  have hr5 := (HR2.out.keep hs5 (by omega)).keep hs6 (by omega)
  have he5 := (HE2.out.trans2 hs5 (fun j e => .inr (by have := HR1.out; omega))).trans hs6
  rw [show ((q + 1 : Nat) : Int) = (q : Int) + 1 by omega] at hx5 ht5 hr5 he5
  have HX5 := hide hx5
  have HT5 := hide ht5
  have HR5 := hide hr5
  have HE5 := hide he5
  have l1 := HX2.out.c1
  have lf1 := HX2.out.fz 1
  have hwq : IntKind.i64.wrap ((q : Int) + 1) = (q : Int) + 1 := by rw [IntKind.wrap_i64]; omega
  have hpr1 : p ≠ r1 := by omega
  clear hx5 hs5 hs6 ht5 hr5 he5 HX2 HR2 HT HE2
  have hKK : (K != 0) = true := by rcases HK.out with ⟨_, rfl⟩ | ⟨_, rfl⟩ | ⟨_, rfl⟩ | ⟨_, rfl⟩ <;> rfl
  have hk := HK.out
  clear HK
  have HW := hide (isWordByte_any w4 c)
  obtain ⟨WE, hWE⟩ : ∃ W, W = (w4.setCell ⟨r1, 0, none⟩ (.int .i64 K)).setCell ⟨p, 1, none⟩ (.int .i64 ((q : Int) + 1)) := ⟨_, rfl⟩
  rcases hk with ⟨rfl, rfl⟩ | ⟨rfl, rfl⟩ | ⟨rfl, rfl⟩ | ⟨⟨n1, n2, n3, hwb⟩, rfl⟩
  · go_upto_region 17 with fail
    rw [← hWE] at HX5 HT5 HR5 HE5 ⊢
    clear hWE T0 TF0 l1 lf1 HW hKK
    have R0 := HR5.out.c0
    have F0 := HR5.out.fz 0
    have T0 := HT5.out.c0
    have R1 := HR5.out.c1
    have F1 := HR5.out.fz 1
    have T1 := HT5.out.c1
    have R2 := HR5.out.c2
    have F2 := HR5.out.fz 2
    have T2 := HT5.out.c2
    have R3 := HR5.out.c3
    have F3 := HR5.out.fz 3
    have T3 := HT5.out.c3
    have HXF := fun (y0 y1 y2 y3 : Value) => hide ((((HX5.out.otherN HX00.out HRR.out 0 y0).otherN HX00.out HRR.out 1 y1).otherN HX00.out HRR.out 2 y2).otherN HX00.out HRR.out 3 y3)
    have HEF := fun (y0 y1 y2 y3 : Value) => hide ((((HE5.out.setNew (p := r0) (j := 0) HRR.out y0).setNew (p := r0) (j := 1) HRR.out y1).setNew (p := r0) (j := 2) HRR.out y2).setNew (p := r0) (j := 3) HRR.out y3)
    go_wp2
    exact bodyPost_ret (v := tokV ⟨4, q, ⟨#[]⟩, 0⟩) (by simp [results, Try.results51, go_sem, tokV, R0, R1, R2, R3]) rfl ⟨rfl, (HEF _ _ _ _).out, (HXF _ _ _ _).out⟩
  · go_upto_region 17 with fail
    rw [← hWE] at HX5 HT5 HR5 HE5 ⊢
    clear hWE T0 TF0 l1 lf1 HW hKK
    have R0 := HR5.out.c0
    have F0 := HR5.out.fz 0
    have T0 := HT5.out.c0
    have R1 := HR5.out.c1
    have F1 := HR5.out.fz 1
    have T1 := HT5.out.c1
    have R2 := HR5.out.c2
    have F2 := HR5.out.fz 2
    have T2 := HT5.out.c2
    have R3 := HR5.out.c3
    have F3 := HR5.out.fz 3
    have T3 := HT5.out.c3
    have HXF := fun (y0 y1 y2 y3 : Value) => hide ((((HX5.out.otherN HX00.out HRR.out 0 y0).otherN HX00.out HRR.out 1 y1).otherN HX00.out HRR.out 2 y2).otherN HX00.out HRR.out 3 y3)
    have HEF := fun (y0 y1 y2 y3 : Value) => hide ((((HE5.out.setNew (p := r0) (j := 0) HRR.out y0).setNew (p := r0) (j := 1) HRR.out y1).setNew (p := r0) (j := 2) HRR.out y2).setNew (p := r0) (j := 3) HRR.out y3)
    go_wp2
    exact bodyPost_ret (v := tokV ⟨5, q, ⟨#[]⟩, 0⟩) (by simp [results, Try.results51, go_sem, tokV, R0, R1, R2, R3]) rfl ⟨rfl, (HEF _ _ _ _).out, (HXF _ _ _ _).out⟩
  · go_upto_region 17 with fail
    rw [← hWE] at HX5 HT5 HR5 HE5 ⊢
    clear hWE T0 TF0 l1 lf1 HW hKK
    have R0 := HR5.out.c0
    have F0 := HR5.out.fz 0
    have T0 := HT5.out.c0
    have R1 := HR5.out.c1
    have F1 := HR5.out.fz 1
    have T1 := HT5.out.c1
    have R2 := HR5.out.c2
    have F2 := HR5.out.fz 2
    have T2 := HT5.out.c2
    have R3 := HR5.out.c3
    have F3 := HR5.out.fz 3
    have T3 := HT5.out.c3
    have HXF := fun (y0 y1 y2 y3 : Value) => hide ((((HX5.out.otherN HX00.out HRR.out 0 y0).otherN HX00.out HRR.out 1 y1).otherN HX00.out HRR.out 2 y2).otherN HX00.out HRR.out 3 y3)
    have HEF := fun (y0 y1 y2 y3 : Value) => hide ((((HE5.out.setNew (p := r0) (j := 0) HRR.out y0).setNew (p := r0) (j := 1) HRR.out y1).setNew (p := r0) (j := 2) HRR.out y2).setNew (p := r0) (j := 3) HRR.out y3)
    go_wp2
    exact bodyPost_ret (v := tokV ⟨6, q, ⟨#[]⟩, 0⟩) (by simp [results, Try.results51, go_sem, tokV, R0, R1, R2, R3]) rfl ⟨rfl, (HEF _ _ _ _).out, (HXF _ _ _ _).out⟩
  · have e1 : (c == 47) = false := by simpa using n1
    have e2 : (c == 123) = false := by simpa using n2
    have e3 : (c == 125) = false := by simpa using n3
    rw [hwb] at HW
    clear n1 n2 n3 hwb
    go_upto_region 17 with (go_at_call 73; refine (HW.out).mono ?_; rintro e wq ⟨rfl, rfl⟩; simp only [])
    rw [← hWE] at HX5 HT5 HR5 HE5 ⊢
    clear hWE T0 TF0 l1 lf1 HW hKK
    have R0 := HR5.out.c0
    have F0 := HR5.out.fz 0
    have T0 := HT5.out.c0
    have R1 := HR5.out.c1
    have F1 := HR5.out.fz 1
    have T1 := HT5.out.c1
    have R2 := HR5.out.c2
    have F2 := HR5.out.fz 2
    have T2 := HT5.out.c2
    have R3 := HR5.out.c3
    have F3 := HR5.out.fz 3
    have T3 := HT5.out.c3
    have HXF := fun (y0 y1 y2 y3 : Value) => hide ((((HX5.out.otherN HX00.out HRR.out 0 y0).otherN HX00.out HRR.out 1 y1).otherN HX00.out HRR.out 2 y2).otherN HX00.out HRR.out 3 y3)
    have HEF := fun (y0 y1 y2 y3 : Value) => hide ((((HE5.out.setNew (p := r0) (j := 0) HRR.out y0).setNew (p := r0) (j := 1) HRR.out y1).setNew (p := r0) (j := 2) HRR.out y2).setNew (p := r0) (j := 3) HRR.out y3)
    go_wp2
    exact bodyPost_ret (v := tokV ⟨7, q, ⟨#[]⟩, 0⟩) (by simp [results, Try.results51, go_sem, tokV, R0, R1, R2, R3]) rfl ⟨rfl, (HEF _ _ _ _).out, (HXF _ _ _ _).out⟩
end Go.Proofs.Qxb6500778a
