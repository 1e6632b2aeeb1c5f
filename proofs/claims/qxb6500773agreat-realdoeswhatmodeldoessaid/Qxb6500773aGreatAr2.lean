import Derived.Test.Qxb6500773aGreatAr1
namespace Go.Proofs.Qxb6500773aGreat
set_option maxRecDepth 100000
open Go.RowKit

theorem run_make0 {P : Program} (t e : TypeId) (z : Value) (bytes : Nat) (ht : P.underlying t = some (.slice e)) (hinfo : (P.info? e).map (fun i => (i.zero, i.size, i.bytes)) = some (some z, 1, bytes))
    (n : Nat) (hbytes : bytes * n ≤ 281474976710656) (h63 : n ≤ 9223372036854775807) (w : World) :
    (Instr.makeSlice t (.int .i64 0) (.int .i64 (n : Int))).run P w = .ok (.slice (some ⟨w.heap.size, 0, none⟩) 0 n) (w.alloc (.cells (madeCells z.cells n) e)) := by
  obtain ⟨i, hi, hz, hs, hb⟩ := info_of hinfo
  have hb' : (i.bytes : Int) * (n : Int) ≤ 281474976710656 := by
    have h : ((i.bytes * n : Nat) : Int) ≤ 281474976710656 := by rw [hb]; omega
    rwa [Int.natCast_mul] at h
  have := run_make (P := P) w t e i z ht hi hz .i64 .i64 0 n (Int.le_refl _) (by omega) hb' (by omega)
  simpa [hs] using this
theorem na_rows (w : World) (o1 : Obj) (e1 e2 : Nat) (z1 z2 : Value) (c1 c2 : Nat) (h1 : c1 ≤ maxLen) (h2 : c2 ≤ maxLen) :
    (((w.alloc o1).alloc (.cells (madeCells #[z1] c1) e1)).alloc (.cells (madeCells #[z2] c2) e2)).drew.ownsRow w.heap.size e1 1 (.slice (some ⟨w.heap.size + 1, 0, none⟩) 0 c1) 0 [] ∧
    (((w.alloc o1).alloc (.cells (madeCells #[z1] c1) e1)).alloc (.cells (madeCells #[z2] c2) e2)).drew.ownsRow w.heap.size e2 1 (.slice (some ⟨w.heap.size + 1 + 1, 0, none⟩) 0 c2) 0 [] ∧
    Below w.heap.size w (((w.alloc o1).alloc (.cells (madeCells #[z1] c1) e1)).alloc (.cells (madeCells #[z2] c2) e2)).drew := by
  have r1 := World.ownsRow_made (base := w.heap.size) (e := e1) (size := 1) (w.alloc o1) (madeCells #[z1] c1) c1 (by simp) h1 (by rw [size_madeCells, Nat.mul_one])
  have r2 := World.ownsRow_made (base := w.heap.size) (e := e2) (size := 1) ((w.alloc o1).alloc (.cells (madeCells #[z1] c1) e1)) (madeCells #[z2] c2) c2 (by simp; omega) h2 (by rw [size_madeCells, Nat.mul_one])
  rw [show (w.alloc o1).heap.size = w.heap.size + 1 by simp] at r1
  rw [show ((w.alloc o1).alloc (.cells (madeCells #[z1] c1) e1)).heap.size = w.heap.size + 1 + 1 by simp] at r2
  refine ⟨?_, ?_, ?_⟩
  · exact own_kept (r1.alloc _) (S := fun _ => False) (Ex.refl _ _).drew (fun _ _ e => e)
  · exact own_kept r2 (S := fun _ => False) (Ex.refl _ _).drew (fun _ _ e => e)
  · exact ((be2 w o1 _).alloc (by simp; omega) _).drew
def NaPost (w : World) (e : Ending) (w' : World) : Prop := ∃ g1 c1 g2 c2, e = .returned (.agg #[.slice (some ⟨g1, 0, none⟩) 0 c1, .slice (some ⟨g2, 0, none⟩) 0 c2]) ∧ w'.ownsRow w.heap.size 64 1 (.slice (some ⟨g1, 0, none⟩) 0 c1) 0 [] ∧ w'.ownsRow w.heap.size 3 1 (.slice (some ⟨g2, 0, none⟩) 0 c2) 0 [] ∧ g1 ≠ g2 ∧ Below w.heap.size w w'
set_option linter.unusedSimpArgs false in
set_option maxHeartbeats 4000000 in
/-- cnf.newArena -/
theorem newArena_any (w : World) (m n : Nat) (hm : m ≤ 1000000000) (hn : n ≤ 1000000000) :
    Calls Tryz.prog 115 #[.int .i64 m, .int .i64 n] w (NaPost w) := by
  have hmk1 := run_make0 (P := Tryz.prog) 53 64 (.int .i32 0) 4 Tryz.underlying53 Tryz.info64 n (by omega) (by omega)
  have hmk2 := run_make0 (P := Tryz.prog) 30 3 (.int .i64 0) 8 Tryz.underlying30 Tryz.info3 m (by omega) (by omega)
  go_enter Tryz.func115, Tryz.ntmps115
  go_wp2
  go_region
  all_goals go_wp2
  · have H := na_rows w (Obj.cells #[.slice (some ⟨w.heap.size + 1, 0, none⟩) 0 n, .slice (some ⟨w.heap.size + 1 + 1, 0, none⟩) 0 m] 71) 64 3 (.int .i32 0) (.int .i64 0) n m (by unfold maxLen; omega) (by unfold maxLen; omega)
    exact bodyPost_ret (v := .agg #[.slice (some ⟨w.heap.size + 1, 0, none⟩) 0 n, .slice (some ⟨w.heap.size + 1 + 1, 0, none⟩) 0 m]) (by simp [results, Tryz.results115, go_sem]) rfl ⟨_, _, _, _, rfl, H.1, H.2.1, by omega, H.2.2⟩
  · have H := na_rows w (Obj.cells #[.slice (some ⟨w.heap.size + 1 + 1, 0, none⟩) 0 n, .slice (some ⟨w.heap.size + 1, 0, none⟩) 0 m] 71) 3 64 (.int .i64 0) (.int .i32 0) m n (by unfold maxLen; omega) (by unfold maxLen; omega)
    exact bodyPost_ret (v := .agg #[.slice (some ⟨w.heap.size + 1 + 1, 0, none⟩) 0 n, .slice (some ⟨w.heap.size + 1, 0, none⟩) 0 m]) (by simp [results, Tryz.results115, go_sem]) rfl ⟨_, _, _, _, rfl, H.2.1, H.1, by omega, H.2.2⟩
set_option linter.unusedSimpArgs false in
set_option maxHeartbeats 4000000 in
/-- cnf.newScanner -/
theorem newScanner_any (w : World) (a : Option Addr) (n c : Nat) : Calls Tryz.prog 113 #[.slice a n c] w (FaPost w (.agg #[.slice a n c, .int .i64 0, .int .i64 1, .int .i64 0])) := by
  go_enter Tryz.func113, Tryz.ntmps113
  go_wp2
  exact bodyPost_ret (v := .agg #[.slice a n c, .int .i64 0, .int .i64 1, .int .i64 0]) (by simp [results, Tryz.results113, go_sem]) rfl ⟨rfl, be1 w _⟩
/-- Literals behind an address. -/
def CL (w : World) (a : Option Addr) (X : List Int) : Prop := ∀ (j : Nat) (x : Int), X[j]? = some x → ∃ g off, a = some ⟨g, off, none⟩ ∧ w.cell? ⟨g, off + j, none⟩ = some (.int .i32 x)
theorem CL.keep {w w' : World} {a : Option Addr} {X : List Int} (h : CL w a X) {S : Nat → Prop} (k : Ex S w w') (hs : ∀ g off, a = some ⟨g, off, none⟩ → ¬ S g) : CL w' a X := fun j x hx => by
  obtain ⟨g, off, e, hc⟩ := h j x hx
  exact ⟨g, off, e, k.cell (hs g off e) hc⟩
theorem CL.below {w w' : World} {a : Option Addr} {X : List Int} (h : CL w a X) (k : Below w.heap.size w w') : CL w' a X := h.keep (Ex.of (S := fun _ => False) k) (fun _ _ _ e => e)
def AtPost (w : World) (va : Value) (X : List Int) (e : Ending) (w' : World) : Prop := ∃ a' c', e = .returned (.slice a' X.length c') ∧ CL w' a' X ∧ (∀ g off, a' = some ⟨g, off, none⟩ → va.ownBlock = some g) ∧ Below w.heap.size w w'
theorem map_add0 (a : Option Addr) : a.map (fun x => x.add 0) = a := by cases a <;> simp [Addr.add]
theorem cl_sub {w : World} {B : Nat} {a : Option Addr} {c : Nat} {L : List Int} (hr : w.ownsRow B 64 1 (.slice a L.length c) L.length (L.map (Value.int .i32))) (lo hh : Nat) (_hlh : lo ≤ hh) (_hL : hh ≤ L.length) :
    CL w (a.map (fun x => x.add lo)) ((L.take hh).drop lo) ∧ ∀ g off, a.map (fun x => x.add lo) = some ⟨g, off, none⟩ → (Value.slice a L.length c).ownBlock = some g := by
  constructor
  · intro j x hx
    rw [List.getElem?_drop] at hx
    have hlt : lo + j < hh := by
      have := (List.getElem?_eq_some_iff.1 hx).1
      rw [List.length_take] at this
      omega
    rw [List.getElem?_take_of_lt hlt] at hx
    obtain ⟨g, c', e1, hc, hi⟩ := row_cell hr (i := lo + j) (u := .int .i32 x) (by rw [List.getElem?_map, hx]; rfl)
    cases e1
    exact ⟨g, lo, by show some (Addr.add ⟨g, 0, none⟩ lo) = _; rw [Addr.add_mid, Nat.zero_add], hc⟩
  · intro g off e
    rcases a with _ | ⟨g', o', t'⟩
    · cases e
    · have e2 : Addr.add ⟨g', o', t'⟩ lo = ⟨g, off, none⟩ := by simpa using e
      have e3 : (Addr.add ⟨g', o', t'⟩ lo).block = g' := by unfold Addr.add; split <;> rfl
      rw [e2] at e3
      show some g' = some g
      rw [← e3]
set_option linter.unusedSimpArgs false in
set_option maxHeartbeats 4000000 in
/-- cnf.arena.at -/
theorem at_any (w : World) (B b o : Nat) (a : Option Addr) (c : Nat) (ve : Value) (L E : List Int) (h : AR w B b o (.slice a L.length c) ve L E) (hca : L.length ≤ c) (i : Nat) (lo hh : Nat) (hlo : if i = 0 then lo = 0 else E[i - 1]? = some (lo : Int)) (hhi : E[i]? = some (hh : Int)) (hlh : lo ≤ hh) (hL : hh ≤ L.length) (hEl : E.length ≤ 1000000000000) :
    Calls Tryz.prog 109 #[.pointer (some ⟨b, o, none⟩), .int .i64 i] w (AtPost w (.slice a L.length c) ((L.take hh).drop lo)) := by
  have HA := hide h
  have c0 := h.c0
  have c1 := h.c1
  obtain ⟨g, ce, rfl, x1, hiE⟩ := row_cell h.r1 (i := i) (u := .int .i64 hh) (by rw [List.getElem?_map, hhi]; rfl)
  clear h
  have hi0 : decide ((i : Int) < 0) = false := by simp
  have hiE' : (i : Int) < (E.length : Int) := by omega
  by_cases h0 : i = 0
  · rw [if_pos h0] at hlo
    have h0b : decide ((0 : Int) < (i : Int)) = false := by simp; omega
    have h0n : decide (0 < i) = false := by simp; omega
    subst hlo
    clear hhi h0
    go_enter Tryz.func109, Tryz.ntmps109
    go_upto_region 4 with fail
    go_quiet (fail)
    rename_i nq
    go_wp2
    go_ret
    have H := cl_sub HA.out.r0 0 hh hlh hL
    rw [map_add0] at H
    have hl : ((L.take hh).drop 0).length = hh := by simp; omega
    refine ⟨a, c, by rw [hl]; rfl, ?_, ?_, belN _ nq⟩
    · intro j x hx
      obtain ⟨g, off, e, hc⟩ := H.1 j x hx
      exact ⟨g, off, e, cellKeep (belN _ nq) hc⟩
    · intro g off e
      exact H.2 g off e
  · rw [if_neg h0] at hlo
    obtain ⟨j, rfl⟩ : ∃ j, i = j + 1 := ⟨i - 1, by omega⟩
    rw [Nat.add_sub_cancel] at hlo
    obtain ⟨g', ce', e2, x2, _⟩ := row_cell HA.out.r1 (i := j) (u := .int .i64 lo) (by rw [List.getElem?_map, hlo]; rfl)
    cases e2
    have w1 : IntKind.i64.wrap (((j + 1 : Nat) : Int) - 1) = (j : Int) := by rw [IntKind.wrap_i64]; omega
    have hj0 : decide ((j : Int) < 0) = false := by simp
    have hj1 : (j : Int) < (E.length : Int) := by omega
    clear hhi h0 hlo
    go_enter Tryz.func109, Tryz.ntmps109
    go_upto_region 4 with fail
    go_quiet (fail)
    rename_i nq
    have H := hide (cl_sub HA.out.r0 lo hh hlh hL)
    have hl : ((L.take hh).drop lo).length = hh - lo := by simp; omega
    go_wp2
    · go_ret
      rename_i hcl
      have hz : (L.take hh).drop lo = [] := List.length_eq_zero_iff.1 (by rw [hl]; omega)
      refine ⟨a, 0, by rw [hl]; rfl, ?_, ?_, belN _ nq⟩
      · intro j x hx
        rw [hz] at hx
        cases hx
      · intro g off e
        rw [e]
        rfl
    · go_ret
      refine ⟨_, _, by rw [hl]; rfl, ?_, ?_, belN _ nq⟩
      · intro j x hx
        obtain ⟨g, off, e, hc⟩ := H.out.1 j x hx
        exact ⟨g, off, e, cellKeep (belN _ nq) hc⟩
      · exact H.out.2
end Go.Proofs.Qxb6500773aGreat
