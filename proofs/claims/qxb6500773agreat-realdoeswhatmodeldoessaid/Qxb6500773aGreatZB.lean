import Derived.Test.Qxb6500773aGreatZ9
namespace Go.Proofs.Qxb6500773aGreat
open Go.RowKit

theorem nzN {k : Int} {V : List Int} (h : VOk k V) : 0 ≤ k ∧ k ≤ V.length := by
  rw [h.cnt]; exact cnt_nn V
theorem trueP_one (V : List Int) : trueP V 1 = [] := rfl
def TlPost (w : World) (C : List Int) (e : Ending) (w' : World) : Prop :=
  ∃ a c, e = .returned (.slice a C.length c) ∧ w'.ownsRow w.heap.size 64 1 (.slice a C.length c) C.length (row32 C) ∧ Ex (fun _ => False) w w'
set_option linter.unusedSimpArgs false in
set_option maxRecDepth 100000 in
set_option maxHeartbeats 8000000 in
/-- cnf.Assignment.TrueLits -/
theorem trueLits_any (w : World) (B b : Nat) (va : Value) (k : Int) (V : List Int) (h : AT w B b va k V) (hok : VOk k V) :
    Calls Tryz.prog 48 #[.pointer (some ⟨b, 0, none⟩)] w (TlPost w (trueP V (if V.length = 0 then 1 else V.length))) := by
  have c0 := h.c0
  have c1 := h.c1
  have hln := hok.len
  have hkn := nzN hok
  obtain ⟨K, rfl⟩ : ∃ K : Nat, k = (K : Int) := ⟨k.toNat, by omega⟩
  obtain ⟨a, c, hva⟩ := own_form h.row
  obtain ⟨n, hn⟩ : ∃ n, V.length = n := ⟨_, rfl⟩
  rw [hn] at hva hln hkn ⊢
  rw [hva] at c0
  obtain ⟨i0, hi0, hz0, hz1, hz2⟩ := info_of Tryz.inf64
  have HI := hide (And.intro hi0 (And.intro hz0 (And.intro hz1 hz2)))
  clear hi0 hz0 hz1 hz2
  have hmk := run_make0 (P := Tryz.prog) 54 64 (.int .i32 0) 4 Tryz.underlying54 Tryz.inf64 K (by omega) (by omega)
  have HA := hide h
  have HVA := hide hva
  have HNL := hide hn
  have HR0 := hide (World.ownsRow_made (base := w.heap.size) (e := 64) (size := 1) w (madeCells #[.int .i32 0] K) K (Nat.le_refl _) (by unfold maxLen; omega) (by rw [size_madeCells, Nat.mul_one]))
  have HE0 : Hid (Ex (fun _ => False) w (w.alloc (.cells (madeCells #[.int .i32 0] K) 64))) := (Ex.refl _ w).alloc _
  obtain ⟨N, hN⟩ : ∃ N, (if n = 0 then 1 else n) = N := ⟨_, rfl⟩
  have hN1 : 1 ≤ N ∧ n ≤ N ∧ N ≤ 16777217 := by rw [← hN]; split <;> omega
  have hN3 : N = 1 ∨ N = n := by rw [← hN]; split; exact .inl rfl; exact .inr rfl
  rw [hN]
  clear h hva hn hN hok
  go_enter Tryz.func48, Tryz.ntmps48
  go_upto_region 2 with fail
  clear hmk c0 c1
  generalize w.alloc (.cells (madeCells #[.int .i32 0] K) 64) = w1 at *
  generalize hg0 : w.heap.size = B0 at *
  have HB0 := hide hg0
  clear hg0
  go_wp2_with fail
  go_loopw [3, 4] (fun s3 s4 wr => ∃ (i m c2 : Nat) (a2 : Option Addr), s4 = .int .i64 i ∧ s3 = .slice a2 m c2 ∧ 1 ≤ i ∧ i ≤ N ∧ Hid ((trueP V i).length = m) ∧ Hid (wr.ownsRow B0 64 1 (.slice a2 m c2) m (row32 (trueP V i))) ∧ Hid (Ex (fun _ => False) w wr)) (fun _ s4 _ => N - (intOf s4).toNat)
  case atStart => exact ⟨1, 0, _, _, rfl, rfl, by omega, by omega, rfl, HR0, HE0⟩
  case round =>
    clear HR0 HE0
    obtain ⟨i, m, c2, a2, rfl, rfl, hi1, hiN, HM, HR, HE⟩ := hrel
    have HAr := hide (HA.out.keep HE.out (fun e => e) (fun _ _ e => e))
    have c0 := HAr.out.c0
    rw [HVA.out] at c0
    have hmi : m ≤ i := by have := trueP_len V i; rw [HM.out] at this; exact this
    by_cases hi : i < n
    · have hib : decide ((i : Int) < (n : Int)) = true := decide_eq_true (by omega)
      have hii : (i : Int) < (n : Int) := by omega
      obtain ⟨x, hx⟩ : ∃ x, V[i]? = some x := ⟨_, List.getElem?_eq_getElem (by rw [HNL.out]; exact hi)⟩
      obtain ⟨g, c', e1, hc, _⟩ := row_cell HAr.out.row (i := i) (u := .int .i8 x) (by rw [List.getElem?_map, hx]; rfl)
      rw [HVA.out] at e1
      injection e1 with e1 e2 e3
      subst e1
      have HT := hide (trueP_succ V i hi1)
      rw [List.getD_eq_getElem?_getD, hx] at HT
      simp only [Option.getD_some] at HT
      clear hx e2 e3
      by_cases h0 : x = 0
      · subst h0
        rw [if_pos rfl] at HT
        rw [← HT.out] at HM HR
        go_wp2
        go_roundw
        case rel => exact ⟨i + 1, m, c2, a2, by go_num, rfl, by omega, by omega, HM, HR, HE⟩
        case measure => (simp [intOf]; try omega)
      · have hb0 : (x != 0) = true := by simp [h0]
        rw [if_neg h0] at HT
        have hw : IntKind.i32.wrap (i : Int) = (i : Int) := by rw [IntKind.wrap_i32]; omega
        obtain ⟨ng, hng⟩ : ∃ q, (x == -1) = q := ⟨_, rfl⟩
        have HMK := hide (mkLit_any wr (i : Int) ng (by omega))
        have hq : (if x = -1 then (1 : Int) else 0) = if ng = true then 1 else 0 := by
          rw [← hng]
          by_cases hx1 : x = -1 <;> simp [hx1]
        rw [hq] at HT
        obtain ⟨L, hL⟩ : ∃ L, 2 * (i : Int) + (if ng = true then 1 else 0) = L := ⟨_, rfl⟩
        rw [hL] at HT HMK
        clear hq hL h0
        go_wp2_with (first | (go_at_call 104; refine HMK.out.mono ?_; rintro e w' ⟨rfl, hw'⟩; rw [hw']; clear hw' w'; simp only []) | (at_builtin; refine wpList_append_own _ rfl _ _ 54 rfl B0 64 i0 _ 1 4 Tryz.underlying54 HI.out.1 HI.out.2.1 HI.out.2.2.1 HI.out.2.2.2 rfl (by decide) (.slice a2 m c2) m (row32 (trueP V i)) rfl (HR.out.alloc _) ⟨wr.heap.size, 0, none⟩ 1 1 [.int .i32 L] rfl rfl (fun j u hj => new_cells wr [.int .i32 L] 64 j u hj) (fun u hu => by simp at hu; subst hu; rfl) (by unfold maxLen; omega) (by omega) (by have := HE.out.size; have := HB0.out; simp; omega) ?_; intro v6 w6 hown6 hgrow6 _; obtain ⟨a6, c6, rfl⟩ := own_form hown6; have HO6 := hide hown6; have HG6 := hide hgrow6; clear hown6 hgrow6))
        have HE6 : Hid (Ex (fun _ => False) w w6) := (HE.out.alloc (.cells #[.int .i32 L] 64)).trans2 (Ex.ofGrown (S := fun j => (Value.slice a2 m c2).ownBlock = some j) HG6.out (fun j hj => hj.symm)) (fun j hj => .inr (by have := (HR.out.lt j hj).1; have := HB0.out; omega))
        have HM6 : Hid ((trueP V (i + 1)).length = m + 1) := by show _ = _; rw [HT.out, List.length_append, HM.out]; rfl
        have HR6 : Hid (w6.ownsRow B0 64 1 (.slice a6 (m + 1) c6) (m + 1) (row32 (trueP V (i + 1)))) := by
          show World.ownsRow _ _ _ _ _ _ _
          rw [HT.out]
          unfold row32
          rw [List.map_append]
          exact HO6.out
        clear HO6 HG6 HM HR HE hc c0
        go_wp2
        go_roundw
        case rel => exact ⟨i + 1, m + 1, c6, a6, by go_num, rfl, by omega, by omega, HM6, HR6, HE6⟩
        case measure => (simp [intOf]; try omega)
    · have hib : decide ((i : Int) < (n : Int)) = false := decide_eq_false (by omega)
      have hiN2 : i = N := by omega
      have HP : Hid (TlPost w (trueP V N) (.returned (.slice a2 m c2)) wr) := by
        rw [← hiN2]
        exact ⟨a2, c2, by rw [HM.out], by rw [HM.out, HB0.out]; exact HR.out, HE.out⟩
      clear hiN2
      go_wp2
      go_ret
      exact HP.out
end Go.Proofs.Qxb6500773aGreat
