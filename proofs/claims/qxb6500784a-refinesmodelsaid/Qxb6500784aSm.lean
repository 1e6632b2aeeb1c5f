import Derived.Test.Qxb6500784aAt
namespace Go.Proofs.Qxb6500784a
open Go.RowKit

def fld (t : List Int) (j : Nat) : Int := t[j]?.getD 0
theorem fld_at {k : Nat → IntKind} {n : Nat} {t : List Int} (h : KOk k n t) {j : Nat} (hj : j < n) : (kvs k t)[j]? = some (.int (k j) (fld t j)) := by
  rw [kvs_at, List.getElem?_eq_getElem (by rw [h.l]; exact hj), fld, List.getElem?_eq_getElem (by rw [h.l]; exact hj)]; rfl
theorem fld_r {k : Nat → IntKind} {n : Nat} {t : List Int} (h : KOk k n t) {j : Nat} (hj : j < n) : 0 ≤ fld t j ∧ fld t j < lim (k j) := by
  have e : t[j]? = some (fld t j) := by rw [fld, List.getElem?_eq_getElem (by rw [h.l]; exact hj)]; rfl
  exact h.r j _ e
theorem fld_msg (t : List Int) (j : Nat) : fld (txMsg t) j = fld t (42 + j) := by simp [fld, txMsg]
def gasP (t : List Int) : Int := if fld t 0 = 1 then 21 else if fld t 0 = 2 then 34 else if fld t 0 = 3 then 32 else if fld t 0 = 4 then 30 + fld t 9 else if fld t 0 = 5 then 25 else 0
def minP (t : List Int) : Int := if fld t 0 = 1 then 2 else if fld t 0 = 2 then 3 else if fld t 0 = 4 then 2 + (fld t 9 + 7) / 8 else if fld t 0 = 5 then 1 else 0
def forP (c own : Int) : Bool := (decide (c = 1) || decide (c = 2) || decide (c = 3)) && !decide (c = own)
attribute [-simp] Try.isAgg92 Try.sizeOf92 Try.typeInfo92 Try.isAgg50 Try.sizeOf50 Try.typeInfo50 Try.isAgg54 Try.sizeOf54 Try.typeInfo54
set_option maxRecDepth 100000 in
theorem at_any (w : World) (a t : Int) (h0 : 0 ≤ a) (h1 : a < 256) (h2 : 0 ≤ t) (h3 : t < 256) : Calls Try.prog 70 #[.int .u8 a, .int .u8 t] w fun e w' => e = .returned (.int .i64 (a * 4 + t)) ∧ w' = w := by
  go_enter Try.func70, Try.ntmps70
  go_wp2
  go_ret
  exact ⟨ret_int (by go_num), rfl⟩
set_option maxRecDepth 100000 in
theorem foreign_any (w : World) (c own : Int) : Calls Try.prog 89 #[.int .u8 c, .int .u8 own] w fun e w' => e = .returned (.bool (forP c own)) ∧ w' = w := by
  unfold forP
  by_cases h1 : c = 1
  · subst h1
    by_cases h4 : (1 : Int) = own
    · subst h4
      go_enter Try.func89, Try.ntmps89
      go_wp2
      go_ret
      exact ⟨rfl, rfl⟩
    · go_enter Try.func89, Try.ntmps89
      go_wp2
      go_ret
      exact ⟨ret_bool (by simp [h4]), rfl⟩
  · by_cases h2 : c = 2
    · subst h2
      by_cases h4 : (2 : Int) = own
      · subst h4
        go_enter Try.func89, Try.ntmps89
        go_wp2
        go_ret
        exact ⟨rfl, rfl⟩
      · go_enter Try.func89, Try.ntmps89
        go_wp2
        go_ret
        exact ⟨ret_bool (by simp [h4]), rfl⟩
    · by_cases h3 : c = 3
      · subst h3
        by_cases h4 : (3 : Int) = own
        · subst h4
          go_enter Try.func89, Try.ntmps89
          go_wp2
          go_ret
          exact ⟨rfl, rfl⟩
        · go_enter Try.func89, Try.ntmps89
          go_wp2
          go_ret
          exact ⟨ret_bool (by simp [h4]), rfl⟩
      · go_enter Try.func89, Try.ntmps89
        go_wp2
        go_ret
        exact ⟨ret_bool (by simp [h1, h2, h3]), rfl⟩
set_option maxRecDepth 100000 in
theorem gas_any (w : World) (t : List Int) (h : TxOk t) : Calls Try.prog 71 #[.agg (kvs txk t).toArray] w fun e w' => e = .returned (.int .u64 (gasP t)) ∧ Below w.heap.size w w' := by
  have HG : Hid (gasP t = if fld t 0 = 1 then 21 else if fld t 0 = 2 then 34 else if fld t 0 = 3 then 32 else if fld t 0 = 4 then 30 + fld t 9 else if fld t 0 = 5 then 25 else 0) := rfl
  have c0 := fld_at h (j := 0) (by omega)
  have c9 := fld_at h (j := 9) (by omega)
  have r9 := fld_r h (j := 9) (by omega)
  rw [show txk 0 = .u8 from rfl] at c0
  rw [show txk 9 = .u8 from rfl] at c9
  rw [show lim (txk 9) = 256 from rfl] at r9
  obtain ⟨V, hV⟩ : ∃ V, kvs txk t = V := ⟨_, rfl⟩
  rw [hV] at c0 c9 ⊢
  generalize fld t 0 = kd at *
  generalize fld t 9 = sz at *
  generalize gasP t = G at *
  clear hV h
  obtain ⟨r9a, r9b⟩ := r9
  go_enter Try.func71, Try.ntmps71
  go_upto_region 1 with fail
  have HB := hide (be1 w (.cells V.toArray 92))
  have z0 : (w.alloc (.cells V.toArray 92)).cell? ⟨w.heap.size, 0, none⟩ = some (.int .u8 kd) := by have := newR w V 92 0 _ c0; simpa using this
  have z9 : (w.alloc (.cells V.toArray 92)).cell? ⟨w.heap.size, 9, none⟩ = some (.int .u8 sz) := by have := newR w V 92 9 _ c9; simpa using this
  generalize w.alloc (.cells V.toArray 92) = w1 at *
  clear c0 c9
  by_cases h1 : kd = 1
  · go_wp2
    go_ret
    exact ⟨ret_int (by rw [HG.out]; simp [h1]), HB.out⟩
  · by_cases h2 : kd = 2
    · go_wp2
      go_ret
      exact ⟨ret_int (by rw [HG.out]; simp [h2]), HB.out⟩
    · by_cases h3 : kd = 3
      · go_wp2
        go_ret
        exact ⟨ret_int (by rw [HG.out]; simp [h3]), HB.out⟩
      · by_cases h4 : kd = 4
        · go_wp2
          go_ret
          exact ⟨ret_int (by rw [HG.out]; simp [h4]), HB.out⟩
        · by_cases h5 : kd = 5
          · go_wp2
            go_ret
            exact ⟨ret_int (by rw [HG.out]; simp [h5]), HB.out⟩
          · go_wp2
            go_ret
            exact ⟨ret_int (by rw [HG.out]; simp [h1, h2, h3, h4, h5]), HB.out⟩
set_option maxRecDepth 100000 in
theorem minfee_any (w : World) (t : List Int) (h : TxOk t) : Calls Try.prog 90 #[.agg (kvs txk t).toArray] w fun e w' => e = .returned (.int .u64 (minP t)) ∧ Below w.heap.size w w' := by
  have HG : Hid (minP t = if fld t 0 = 1 then 2 else if fld t 0 = 2 then 3 else if fld t 0 = 4 then 2 + (fld t 9 + 7) / 8 else if fld t 0 = 5 then 1 else 0) := rfl
  have c0 := fld_at h (j := 0) (by omega)
  have c9 := fld_at h (j := 9) (by omega)
  have r9 := fld_r h (j := 9) (by omega)
  rw [show txk 0 = .u8 from rfl] at c0
  rw [show txk 9 = .u8 from rfl] at c9
  rw [show lim (txk 9) = 256 from rfl] at r9
  obtain ⟨V, hV⟩ : ∃ V, kvs txk t = V := ⟨_, rfl⟩
  rw [hV] at c0 c9 ⊢
  generalize fld t 0 = kd at *
  generalize fld t 9 = sz at *
  generalize minP t = G at *
  clear hV h
  obtain ⟨r9a, r9b⟩ := r9
  go_enter Try.func90, Try.ntmps90
  go_upto_region 1 with fail
  have HB := hide (be1 w (.cells V.toArray 92))
  have z0 : (w.alloc (.cells V.toArray 92)).cell? ⟨w.heap.size, 0, none⟩ = some (.int .u8 kd) := by have := newR w V 92 0 _ c0; simpa using this
  have z9 : (w.alloc (.cells V.toArray 92)).cell? ⟨w.heap.size, 9, none⟩ = some (.int .u8 sz) := by have := newR w V 92 9 _ c9; simpa using this
  generalize w.alloc (.cells V.toArray 92) = w1 at *
  clear c0 c9
  by_cases h1 : kd = 1
  · go_wp2
    go_ret
    exact ⟨ret_int (by rw [HG.out]; simp [h1]), HB.out⟩
  · by_cases h2 : kd = 2
    · go_wp2
      go_ret
      exact ⟨ret_int (by rw [HG.out]; simp [h2]), HB.out⟩
    · by_cases h4 : kd = 4
      · go_wp2
        go_ret
        exact ⟨ret_int (by rw [HG.out]; simp [h4]), HB.out⟩
      · by_cases h5 : kd = 5
        · go_wp2
          go_ret
          exact ⟨ret_int (by rw [HG.out]; simp [h5]), HB.out⟩
        · go_wp2
          go_ret
          exact ⟨ret_int (by rw [HG.out]; simp [h1, h2, h4, h5]), HB.out⟩
end Go.Proofs.Qxb6500784a
