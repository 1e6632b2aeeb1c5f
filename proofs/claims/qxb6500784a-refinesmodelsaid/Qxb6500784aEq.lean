import Derived.Test.Qxb6500784aSo
import Derived.ChangeKeysEq
namespace Go.Proofs.Qxb6500784a
open Go.RowKit

/-! ### Equality of structs and arrays -/
theorem eqFields_all {w : World} {d : Nat} {xs ys : Array Value} (q : Field → Bool) : ∀ (fs : List Field), (∀ f, f ∈ fs → f.name ≠ "_" ∧ ∃ a b, (part f.type xs f.offset).run Try.prog w = .ok a w ∧ (part f.type ys f.offset).run Try.prog w = .ok b w ∧ (Op.equalIn d f.type a b).run Try.prog w = .ok (q f) w) →
    (Op.eqFields d xs ys fs).run Try.prog w = .ok (fs.all q) w
  | [], _ => by simp [Op.eqFields]
  | f :: fs, h => by
    obtain ⟨hn, a, b, p1, p2, p3⟩ := h f (List.mem_cons_self ..)
    have ih := eqFields_all q fs (fun g hg => h g (List.mem_cons_of_mem _ hg))
    simp only [Op.eqFields, if_pos hn, Sem.run_bind, p1, p2, p3, Result.andThen_ok]
    cases hq : q f
    · simp [hq]
    · simpa [hq] using ih
theorem eqItems_all {w : World} {d e : Nat} {k : IntKind} {f g : Nat → Int} {xs ys : Array Value} {n : Nat} (he : Try.prog.plainKey e = true) (hu : Try.prog.underlying e = some (.int k)) (hx : ∀ i, i < n → xs[i]? = some (.int k (f i))) (hy : ∀ i, i < n → ys[i]? = some (.int k (g i))) :
    ∀ is : List Nat, (∀ i, i ∈ is → i < n) → (Op.eqItems (d + 1) e 1 xs ys is).run Try.prog w = .ok (is.all (fun i => f i == g i)) w
  | [], _ => by simp [Op.eqItems]
  | i :: is, h => by
    have hi := h i (List.mem_cons_self ..)
    have ih := eqItems_all (w := w) (d := d) he hu hx hy is (fun k hk => h k (List.mem_cons_of_mem _ hk))
    have p1 := run_part_plain (P := Try.prog) w he (show xs[i * 1]? = _ by rw [Nat.mul_one]; exact hx i hi)
    have p2 := run_part_plain (P := Try.prog) w he (show ys[i * 1]? = _ by rw [Nat.mul_one]; exact hy i hi)
    have p3 := run_equalIn_int (P := Try.prog) w d e k k (f i) (g i) hu
    simp only [Op.eqItems, Sem.run_bind, p1, p2, p3, Result.andThen_ok]
    cases hfg : (f i == g i)
    · simp [hfg]
    · simpa [hfg] using ih
theorem eqInt {w : World} {d e : Nat} {k : IntKind} {x y : Int} {xs ys : Array Value} {o : Nat} (he : Try.prog.plainKey e = true) (hu : Try.prog.underlying e = some (.int k)) (hx : xs[o]? = some (.int k x)) (hy : ys[o]? = some (.int k y)) :
    ∃ a b, (part e xs o).run Try.prog w = .ok a w ∧ (part e ys o).run Try.prog w = .ok b w ∧ (Op.equalIn (d + 1) e a b).run Try.prog w = .ok (x == y) w :=
  ⟨_, _, run_part_plain w he hx, run_part_plain w he hy, run_equalIn_int w d e k k x y hu⟩
theorem part_agg {w : World} {t n : Nat} {d : TypeDesc} {xs : Array Value} {o : Nat} (hu : Try.prog.underlying t = some d) (hd : d.isRow = true) (hs : (Try.prog.info? t).map (·.size) = some n) : (part t xs o).run Try.prog w = .ok (.agg (xs.extract o (o + n))) w := by
  have hagg : (isAgg t).run Try.prog w = .ok true w := by
    unfold isAgg
    rw [Sem.run_bind, run_underlying hu w]
    cases d <;> simp_all
  cases hq : Try.prog.info? t with
  | none => simp [hq] at hs
  | some i =>
    have hz : i.size = n := by simpa [hq] using hs
    simp [part, hagg, sizeOf, typeInfo, hq, hz]
def msgB (a b : Msg) : Bool := (((List.range 9).all fun j => fld a j == fld b j) && (List.range 32).all fun i => fld a (9 + i) == fld b (9 + i))
theorem msgB_eq {a b : Msg} (ha : MsgOk a) (hb : MsgOk b) : msgB a b = decide (a = b) := by
  rw [Bool.eq_iff_iff, decide_eq_true_eq, msgB, Bool.and_eq_true, List.all_eq_true, List.all_eq_true]
  constructor
  · rintro ⟨h1, h2⟩
    have h : ∀ j, j < 41 → fld a j = fld b j := fun j hj => by
      by_cases h9 : j < 9
      · simpa using h1 j (List.mem_range.2 h9)
      · have := h2 (j - 9) (List.mem_range.2 (by omega))
        rw [show 9 + (j - 9) = j by omega] at this
        simpa using this
    apply List.ext_getElem?
    intro j
    by_cases hj : j < 41
    · have := h j hj
      unfold fld at this
      rw [List.getElem?_eq_getElem (by rw [ha.l]; exact hj), List.getElem?_eq_getElem (by rw [hb.l]; exact hj)] at this ⊢
      simpa using this
    · rw [List.getElem?_eq_none (by rw [ha.l]; omega), List.getElem?_eq_none (by rw [hb.l]; omega)]
  · rintro rfl
    simp
theorem Try.sz62 : (Try.prog.info? 62).map (·.size) = some 32 := by kernel_rfl
theorem Try.fo68 : Try.prog.fieldsOf 68 = #[{ name := "Kind", type := 66, offset := 0, embedded := false, tag := "", pkgPath := "", byteOffset := 0 }, { name := "From", type := 28, offset := 1, embedded := false, tag := "", pkgPath := "", byteOffset := 1 }, { name := "To", type := 28, offset := 2, embedded := false, tag := "", pkgPath := "", byteOffset := 2 }, { name := "Sender", type := 30, offset := 3, embedded := false, tag := "", pkgPath := "", byteOffset := 3 },
    { name := "Receiver", type := 30, offset := 4, embedded := false, tag := "", pkgPath := "", byteOffset := 4 }, { name := "Seq", type := 29, offset := 5, embedded := false, tag := "", pkgPath := "", byteOffset := 8 }, { name := "Token", type := 31, offset := 6, embedded := false, tag := "", pkgPath := "", byteOffset := 16 }, { name := "Amount", type := 29, offset := 7, embedded := false, tag := "", pkgPath := "", byteOffset := 24 },
    { name := "Size", type := 5, offset := 8, embedded := false, tag := "", pkgPath := "", byteOffset := 32 }, { name := "Payload", type := 62, offset := 9, embedded := false, tag := "", pkgPath := "", byteOffset := 33 }] := by kernel_rfl
set_option maxRecDepth 100000 in
theorem eq68 (w : World) {a b : Msg} (ha : MsgOk a) (hb : MsgOk b) (d : Nat) : (Op.equalIn (d + 4) 68 (.agg (msv a).toArray) (.agg (msv b).toArray)).run Try.prog w = .ok (decide (a = b)) w := by
  have ga : ∀ j, j < 41 → (msv a).toArray[j]? = some (.int (mkd j) (fld a j)) := fun j hj => by rw [List.getElem?_toArray]; exact fld_at ha hj
  have gb : ∀ j, j < 41 → (msv b).toArray[j]? = some (.int (mkd j) (fld b j)) := fun j hj => by rw [List.getElem?_toArray]; exact fld_at hb hj
  have hpay : ∃ x y, (part 62 (msv a).toArray 9).run Try.prog w = .ok x w ∧ (part 62 (msv b).toArray 9).run Try.prog w = .ok y w ∧ (Op.equalIn (d + 3) 62 x y).run Try.prog w = .ok ((List.range 32).all fun i => fld a (9 + i) == fld b (9 + i)) w := by
    refine ⟨_, _, part_agg Try.underlying62 rfl Try.sz62, part_agg Try.underlying62 rfl Try.sz62, ?_⟩
    obtain ⟨i5, hi5⟩ : ∃ i, Try.prog.info? 5 = some i := ⟨_, rfl⟩
    rw [run_equalIn_array w (d + 2) _ _ Try.underlying62 hi5, show Try.prog.cellsOf 5 = 1 from by kernel_rfl]
    refine eqItems_all (n := 32) (k := .u8) (by kernel_rfl) Try.underlying5 (fun i hi => ?_) (fun i hi => ?_) (List.range 32) (fun i hi => List.mem_range.1 hi)
    · rw [Array.getElem?_extract, if_pos (by simp [msv_len ha]; omega), ga (9 + i) (by omega)]
      unfold mkd; rw [if_neg (by omega)]
    · rw [Array.getElem?_extract, if_pos (by simp [msv_len hb]; omega), gb (9 + i) (by omega)]
      unfold mkd; rw [if_neg (by omega)]
  rw [run_equalIn_struct w (d + 3) 68 _ _ (by rw [Try.underlying68, Try.fo68]) (by kernel_rfl), Try.fo68]
  rw [eqFields_all (fun f => if f.type = 62 then (List.range 32).all fun i => fld a (9 + i) == fld b (9 + i) else fld a f.offset == fld b f.offset)]
  · congr 1
    rw [← msgB_eq ha hb, msgB]
    simp [List.range, List.range.loop, Bool.and_assoc]
  · intro f hf
    simp only [List.mem_cons, List.not_mem_nil, or_false] at hf
    rcases hf with rfl | rfl | rfl | rfl | rfl | rfl | rfl | rfl | rfl | rfl
    · exact ⟨by decide, eqInt (k := .u8) (by kernel_rfl) Try.underlying66 (ga 0 (by omega)) (gb 0 (by omega))⟩
    · exact ⟨by decide, eqInt (k := .u8) (by kernel_rfl) Try.underlying28 (ga 1 (by omega)) (gb 1 (by omega))⟩
    · exact ⟨by decide, eqInt (k := .u8) (by kernel_rfl) Try.underlying28 (ga 2 (by omega)) (gb 2 (by omega))⟩
    · exact ⟨by decide, eqInt (k := .u8) (by kernel_rfl) Try.underlying30 (ga 3 (by omega)) (gb 3 (by omega))⟩
    · exact ⟨by decide, eqInt (k := .u8) (by kernel_rfl) Try.underlying30 (ga 4 (by omega)) (gb 4 (by omega))⟩
    · exact ⟨by decide, eqInt (k := .u64) (by kernel_rfl) Try.underlying29 (ga 5 (by omega)) (gb 5 (by omega))⟩
    · exact ⟨by decide, eqInt (k := .u8) (by kernel_rfl) Try.underlying31 (ga 6 (by omega)) (gb 6 (by omega))⟩
    · exact ⟨by decide, eqInt (k := .u64) (by kernel_rfl) Try.underlying29 (ga 7 (by omega)) (gb 7 (by omega))⟩
    · exact ⟨by decide, eqInt (k := .u8) (by kernel_rfl) Try.underlying5 (ga 8 (by omega)) (gb 8 (by omega))⟩
    · exact ⟨by decide, hpay⟩
end Go.Proofs.Qxb6500784a
