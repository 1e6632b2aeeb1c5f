import Derived.Test.Qxb6500784aSk
import Derived.Test.Qxb6500784aSb
namespace Go.Proofs.Qxb6500784a
open Go.RowKit

/-! ### Equal results -/
theorem eqIntT {w : World} {d e : Nat} {k : IntKind} {x : Int} {xs : Array Value} {o : Nat} (he : Try.prog.plainKey e = true) (hu : Try.prog.underlying e = some (.int k)) (hx : xs[o]? = some (.int k x)) :
    ∃ a b, (part e xs o).run Try.prog w = .ok a w ∧ (part e xs o).run Try.prog w = .ok b w ∧ (Op.equalIn (d + 1) e a b).run Try.prog w = .ok true w := by
  obtain ⟨a, b, h1, h2, h3⟩ := eqInt (w := w) (d := d) he hu hx hx
  exact ⟨a, b, h1, h2, by simpa using h3⟩
theorem eqBoolT {w : World} {d e : Nat} {x : Bool} {xs : Array Value} {o : Nat} (he : Try.prog.plainKey e = true) (hu : Try.prog.underlying e = some .bool) (hx : xs[o]? = some (.bool x)) :
    ∃ a b, (part e xs o).run Try.prog w = .ok a w ∧ (part e xs o).run Try.prog w = .ok b w ∧ (Op.equalIn (d + 1) e a b).run Try.prog w = .ok true w :=
  ⟨_, _, run_part_plain w he hx, run_part_plain w he hx, by rw [run_equalIn_bool w d e x x hu]; simp⟩
theorem Try.fo89 : Try.prog.fieldsOf 89 = #[{ name := "Code", type := 35, offset := 0, embedded := false, tag := "", pkgPath := "", byteOffset := 0 },
        { name := "Gas", type := 29, offset := 1, embedded := false, tag := "", pkgPath := "", byteOffset := 8 },
        { name := "Fee", type := 29, offset := 2, embedded := false, tag := "", pkgPath := "", byteOffset := 16 },
        { name := "HasSent", type := 4, offset := 3, embedded := false, tag := "", pkgPath := "", byteOffset := 24 },
        { name := "Sent", type := 68, offset := 4, embedded := false, tag := "", pkgPath := "", byteOffset := 32 },
        { name := "HasTook", type := 4, offset := 45, embedded := false, tag := "", pkgPath := "", byteOffset := 104 },
        { name := "Took", type := 68, offset := 46, embedded := false, tag := "", pkgPath := "", byteOffset := 112 }] := by kernel_rfl
theorem Try.isz68 : (Try.prog.info? 68).map (·.size) = some 41 := by kernel_rfl
theorem Rcp.cut4 {r : Rcp} (h : r.Ok) : r.vals.toArray.extract 4 (4 + 41) = (msv r.sent).toArray := by
  rw [List.extract_toArray]
  congr 1
  show List.take (4 + 41 - 4) (List.drop 4 (Value.int .i64 r.code :: .int .u64 r.gas :: .int .u64 r.fee :: .bool r.hs :: (msv r.sent ++ (.bool r.ht :: msv r.took)))) = _
  rw [show (4 + 41 - 4 : Nat) = 41 from rfl]
  simp only [List.drop_succ_cons, List.drop_zero]
  exact List.take_left' (msv_len h.s)
theorem Rcp.cut46 {r : Rcp} (h : r.Ok) : r.vals.toArray.extract 46 (46 + 41) = (msv r.took).toArray := by
  rw [List.extract_toArray]
  congr 1
  show List.take (46 + 41 - 46) (List.drop 46 (Value.int .i64 r.code :: .int .u64 r.gas :: .int .u64 r.fee :: .bool r.hs :: (msv r.sent ++ (.bool r.ht :: msv r.took)))) = _
  rw [show (46 + 41 - 46 : Nat) = 41 from rfl]
  rw [show (46 : Nat) = 4 + ((msv r.sent).length + 1) by rw [msv_len h.s], ← List.drop_drop, show List.drop 4 (Value.int .i64 r.code :: .int .u64 r.gas :: .int .u64 r.fee :: .bool r.hs :: (msv r.sent ++ (.bool r.ht :: msv r.took))) = msv r.sent ++ (.bool r.ht :: msv r.took) from rfl, ← List.drop_drop, List.drop_left]
  show List.take 41 (msv r.took) = _
  exact List.take_of_length_le (Nat.le_of_eq (msv_len h.t))
set_option maxRecDepth 100000 in
theorem eq89 (w : World) {r : Rcp} (h : r.Ok) (d : Nat) : (Op.equalIn (d + 6) 89 (.agg r.vals.toArray) (.agg r.vals.toArray)).run Try.prog w = .ok true w := by
  rw [run_equalIn_struct w (d + 5) 89 _ _ (by rw [Try.underlying89, Try.fo89]) (by kernel_rfl), Try.fo89]
  rw [eqFields_all (fun _ => true)]
  · simp
  · intro f hf
    simp only [List.mem_cons, List.not_mem_nil, or_false] at hf
    have hm : ∀ (m : Msg), MsgOk m → (Op.equalIn (d + 5) 68 (.agg (msv m).toArray) (.agg (msv m).toArray)).run Try.prog w = .ok true w := fun m hm => by have := eq68 w hm hm (d + 1); simpa using this
    rcases hf with rfl | rfl | rfl | rfl | rfl | rfl | rfl
    · exact ⟨by decide, eqIntT (k := .i64) (x := r.code) (by kernel_rfl) Try.underlying35 rfl⟩
    · exact ⟨by decide, eqIntT (k := .u64) (x := r.gas) (by kernel_rfl) Try.underlying29 rfl⟩
    · exact ⟨by decide, eqIntT (k := .u64) (x := r.fee) (by kernel_rfl) Try.underlying29 rfl⟩
    · exact ⟨by decide, eqBoolT (x := r.hs) (by kernel_rfl) Try.underlying4 rfl⟩
    · exact ⟨by decide, _, _, part_agg Try.underlying68 rfl Try.isz68, part_agg Try.underlying68 rfl Try.isz68, by rw [Rcp.cut4 h]; exact hm _ h.s⟩
    · exact ⟨by decide, eqBoolT (x := r.ht) (by kernel_rfl) Try.underlying4 (by rw [List.getElem?_toArray]; exact Rcp.at45 h)⟩
    · exact ⟨by decide, _, _, part_agg Try.underlying68 rfl Try.isz68, part_agg Try.underlying68 rfl Try.isz68, by rw [Rcp.cut46 h]; exact hm _ h.t⟩
theorem Try.isz5 : (Try.prog.info? 5).map (·.size) = some 1 := by kernel_rfl
theorem eq63 {w : World} (d : Nat) {l : List Int} (hl : l.length = 32) : (Op.equalIn (d + 2) 63 (.agg (u8s l).toArray) (.agg (u8s l).toArray)).run Try.prog w = .ok true w := by
  obtain ⟨i5, hi5⟩ : ∃ i, Try.prog.info? 5 = some i := by
    cases hh : Try.prog.info? 5 with
    | none => have := Try.isz5; rw [hh] at this; cases this
    | some i => exact ⟨i, rfl⟩
  rw [run_equalIn_array w (d + 1) _ _ Try.underlying63 hi5, show Try.prog.cellsOf 5 = 1 from by kernel_rfl]
  have g : ∀ i, i < 32 → (u8s l).toArray[i]? = some (.int .u8 (fld l i)) := fun i hi => by
    rw [List.getElem?_toArray, u8s, List.getElem?_map, fld, List.getElem?_eq_getElem (by rw [hl]; exact hi)]; rfl
  rw [eqItems_all (n := 32) (k := .u8) (f := fld l) (g := fld l) (by kernel_rfl) Try.underlying5 g g (List.range 32) (fun i hi => List.mem_range.1 hi)]
  simp
/-- Two results that show the same. -/
structure RsE (r q : Rs) : Prop where
  c : q.code = r.code
  f : q.failed = r.failed
  o : q.ord = r.ord
  x : q.rcs = r.rcs
  s : q.stm = r.stm
  g : q.gas = r.gas
  a : q.ra = r.ra
  b : q.rb = r.rb
theorem RsE.refl (r : Rs) : RsE r r := ⟨rfl, rfl, rfl, rfl, rfl, rfl, rfl, rfl⟩
theorem legR_E {P : Pr} {c : Int} {t : List Int} {r q : Rs} (h : RsE r q) : RsE (legR P c t r) (legR P c t q) := by
  refine ⟨h.c, h.f, h.o, ?_, ?_, ?_, h.a, h.b⟩
  · simp only [legR, h.x]
  · simp only [legR, h.s]
  · simp only [legR, h.g]
theorem runK_E {L : Nat → Leg} {T : Nat → List Int} : ∀ (is : List Nat) (P : Pr) (r q : Rs), RsE r q → (runK L T is P q).1 = (runK L T is P r).1 ∧ RsE (runK L T is P r).2.1 (runK L T is P q).2.1 ∧ (runK L T is P q).2.2 = (runK L T is P r).2.2
  | [], P, r, q, h => ⟨rfl, h, rfl⟩
  | i :: is, P, r, q, h => by
    rw [runK, runK]
    split
    · exact runK_E is _ _ _ (legR_E h)
    · exact ⟨rfl, h, rfl⟩
theorem simR_E (P : Pr) (n : Nat) (L : Nat → Leg) (T : Nat → List Int) (v v' : Value) : RsE (simR P n L T v) (simR P n L T v') := by
  obtain ⟨h1, h2, h3⟩ := runK_E (L := L) (T := T) (ordP n L) (opened P) (res0 (ordI (ordP n L)) v) (res0 (ordI (ordP n L)) v') ⟨rfl, rfl, rfl, rfl, rfl, rfl, rfl, rfl⟩
  have e1 : (simK P n L T v').1 = (simK P n L T v).1 := h1
  have e2 : RsE (simK P n L T v).2.1 (simK P n L T v').2.1 := h2
  have e3 : (simK P n L T v').2.2 = (simK P n L T v).2.2 := h3
  unfold simR
  rw [e3, e1]
  split
  · exact RsE.refl _
  · split
    · exact RsE.refl _
    · split
      · exact RsE.refl _
      · exact ⟨e2.c, e2.f, e2.o, e2.x, e2.s, e2.g, rfl, rfl⟩
theorem own_le {w : World} {B e s n : Nat} {v : Value} {xs : List Value} (h : w.ownsRow B e s v n xs) : n ≤ 9223372036854775807 := by
  rcases h.2 with ⟨_, h⟩ | ⟨g, cap, cur, _, _, _, h1, h2, _⟩
  · omega
  · unfold maxLen at h2; omega
set_option maxRecDepth 100000 in
/-- sameInts of two equal lists -/
theorem sameI_any (w : World) (v1 v2 : Value) (V : List Int) (h1 : w.ownsRow 0 3 1 v1 V.length (i64s V)) (h2 : w.ownsRow 0 3 1 v2 V.length (i64s V)) :
    Calls Try.prog 17 #[v1, v2] w fun e w' => e = .returned (.bool true) ∧ Below w.heap.size w w' := by
  have hle := own_le h1
  obtain ⟨a1, p1, rfl⟩ := own_form h1
  obtain ⟨a2, p2, rfl⟩ := own_form h2
  have H1 := hide h1
  have H2 := hide h2
  clear h1 h2
  go_enter Try.func17, Try.ntmps17
  go_wp2
  go_loopw [13] (fun s wr => ∃ k : Nat, k ≤ V.length ∧ s = .int .i64 k ∧ Below w.heap.size w wr) (fun s _ => V.length - (intOf s).toNat)
  case atStart => exact ⟨0, Nat.zero_le _, rfl, Below.refl _ _⟩
  case round =>
    obtain ⟨k, hk, rfl, hbel⟩ := hrel
    have HB := hide hbel
    clear hbel
    by_cases hlt : k < V.length
    · obtain ⟨x, hx⟩ : ∃ x, V[k]? = some x := ⟨_, List.getElem?_eq_getElem hlt⟩
      obtain ⟨g1, _, hg1⟩ := own_some H1.out (by omega)
      obtain ⟨g2, _, hg2⟩ := own_some H2.out (by omega)
      cases hg1
      cases hg2
      have hxv : (i64s V)[k]? = some (.int .i64 x) := by rw [i64s, List.getElem?_map, hx]; rfl
      have q1 : w.cell? ⟨g1, k, none⟩ = some (.int .i64 x) := by have := own_range H1.out k _ hxv; rwa [Nat.zero_add] at this
      have q2 : w.cell? ⟨g2, k, none⟩ = some (.int .i64 x) := by have := own_range H2.out k _ hxv; rwa [Nat.zero_add] at this
      have c1 := cellKeep HB.out q1
      have c2 := cellKeep HB.out q2
      clear hx hxv q1 q2
      go_upto_region 6 with fail
      go_quiet (fail)
      have HBd : Hid (Below w.heap.size w (wr.drewN nq)) := HB.out.trans (below_drewN _ _ _)
      go_wp2
      go_roundw
      case rel => exact ⟨k + 1, by omega, by go_num, HBd.out⟩
      case measure => simp [intOf]; omega
    · go_wp2
      go_ret
      exact ⟨rfl, HB.out⟩
end Go.Proofs.Qxb6500784a
