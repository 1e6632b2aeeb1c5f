import Derived.Test.Qxb6500773aGreatZ2
import Derived.Deep.OwnRows
import Derived.Deep.CutBlock
namespace Go.Proofs.Qxb6500773aGreat
open Go.RowKit

theorem results_nil {P : Program} {fn : Func} {tmps : Array Value} {w : World} (hr : fn.results = #[]) : (results fn tmps).run P w = .ok (.tuple #[]) w := by
  unfold results
  rw [hr]
  simp
theorem bodyPost_nrm {P : Program} {fn : Func} {R : Ending → World → Prop} {a : Act} {w : World} {v : Value}
    (hr : (results fn a.tmps).run P w = .ok v w) (hd : a.defers = []) (hR : R (.returned v) w) : bodyPost P fn R .normal a w := ⟨hd, v, hr, hR⟩
/-- cells set one after the other -/
def setL : List Value → Nat → List Value → List Value
  | xs, _, [] => xs
  | xs, o, v :: r => setL (xs.set o v) (o + 1) r
theorem own_sets {B e g n c : Nat} : ∀ (vs : List Value) (w : World) (xs : List Value) (o : Nat), w.ownsRow B e 1 (.slice (some ⟨g, 0, none⟩) n c) n xs → (w.setCells g o vs).ownsRow B e 1 (.slice (some ⟨g, 0, none⟩) n c) n (setL xs o vs)
  | [], _, _, _, h => h
  | v :: r, w, xs, o, h => by
    rw [World.setCells, setL]
    exact own_sets r _ _ _ (h.stored o v).1
theorem setL_at : ∀ (vs pre post : List Value), vs.length ≤ post.length → setL (pre ++ post) pre.length vs = pre ++ vs ++ post.drop vs.length
  | [], pre, post, _ => by simp [setL]
  | v :: r, pre, [], h => by simp at h
  | v :: r, pre, p :: post, h => by
    rw [setL]
    have e1 : (pre ++ p :: post).set pre.length v = (pre ++ [v]) ++ post := by simp
    have e2 : pre.length + 1 = (pre ++ [v]).length := by simp
    rw [e1, e2, setL_at r (pre ++ [v]) post (by simpa using h)]
    simp
theorem setL_zero {vs post : List Value} (h : vs.length ≤ post.length) : setL post 0 vs = vs ++ post.drop vs.length := by
  have := setL_at vs [] post h
  simpa using this
theorem made_list (z : Value) (n : Nat) : (madeCells #[z] n).toList = List.replicate n z := by
  unfold madeCells
  refine List.ext_getElem? (fun i => ?_)
  simp [Nat.mod_one]
  by_cases h : i < n <;> simp [h]
theorem own_made (w : World) (B t n : Nat) (z : Value) (hB : B ≤ w.heap.size) (hn : n ≤ maxLen) : (w.alloc (.cells (madeCells #[z] n) t)).ownsRow B t 1 (.slice (some ⟨w.heap.size, 0, none⟩) n n) n (List.replicate n z) := by
  refine ⟨by simp, .inr ⟨w.heap.size, n, madeCells #[z] n, rfl, hB, heap_alloc_new w _, Nat.le_refl _, hn, by rw [size_madeCells, Nat.mul_one], ?_⟩⟩
  rw [made_list, Nat.mul_one, List.take_of_length_le (by simp)]
/-- what Grow makes of the values -/
def gszP (n M : Nat) : Nat := if 2 * n < M + 1 then M + 1 else if 16777216 < 2 * n then 16777216 else 2 * n
def growP (V : List Int) (m : Int) : List Int :=
  if (if 16777215 < m then 16777215 else m) < (V.length : Int) then V else V ++ List.replicate (gszP V.length (if 16777215 < m then 16777215 else m).toNat - V.length) 0
def row8 (V : List Int) : List Value := V.map (Value.int .i8)
theorem grow_store {w : World} {B b g z n : Nat} {va : Value} {k : Int} {V : List Int} (h : AT w B b va k V) (hB : B ≤ w.heap.size) (hn : V.length = n) (hz : n ≤ z) (hm : z ≤ maxLen) (hg : w.heap.size = g) :
    AT (((w.alloc (.cells (madeCells #[.int .i8 0] z) 61)).setCells g 0 (row8 V)).setCell ⟨b, 0, none⟩ (.slice (some ⟨g, 0, none⟩) z z)) B b (.slice (some ⟨g, 0, none⟩) z z) k (V ++ List.replicate (z - n) 0) ∧
    Ex (fun j => j = b) w (((w.alloc (.cells (madeCells #[.int .i8 0] z) 61)).setCells g 0 (row8 V)).setCell ⟨b, 0, none⟩ (.slice (some ⟨g, 0, none⟩) z z)) := by
  have hbl := h.lt
  have hgb : g ≠ b := by omega
  have e0 : Ex (fun _ => False) w (w.alloc (.cells (madeCells #[.int .i8 0] z) 61)) := (Ex.refl _ w).alloc _
  have e1 : Ex (fun j => j = g) w ((w.alloc (.cells (madeCells #[.int .i8 0] z) 61)).setCells g 0 (row8 V)) := Ex.sets (S := fun j => j = g) (p := g) rfl _ _ _ (e0.mono (fun _ z => z.elim))
  have e1' : Ex (fun j => j = b) w ((w.alloc (.cells (madeCells #[.int .i8 0] z) 61)).setCells g 0 (row8 V)) := Ex.setsNew (by omega) _ _ _ (e0.mono (fun _ z => z.elim))
  have c0 := e1.cell (fun z => hgb z.symm) h.c0
  have c1 := e1.cell (fun z => hgb z.symm) h.c1
  have fz : ∀ j, ((w.alloc (.cells (madeCells #[.int .i8 0] z) 61)).setCells g 0 (row8 V)).frozen? ⟨b, j, none⟩ = false := fun j => (e1.frozen (fun z => hgb z.symm) hbl).trans (h.fz j)
  have r0 := own_made w B 61 z (.int .i8 0) hB hm
  rw [hg] at r0
  have r1 := own_sets (row8 V) _ _ 0 r0
  rw [setL_zero (by unfold row8; simp; omega)] at r1
  have e3 : Ex (fun j => j = b) ((w.alloc (.cells (madeCells #[.int .i8 0] z) 61)).setCells g 0 (row8 V)) (((w.alloc (.cells (madeCells #[.int .i8 0] z) 61)).setCells g 0 (row8 V)).setCell ⟨b, 0, none⟩ (.slice (some ⟨g, 0, none⟩) z z)) := (Ex.refl (fun j => j = b) _).set (p := b) rfl _
  refine ⟨⟨World.cell?_setCell_same _ _ _ c0, ?_, fun j => by rw [set_frozen]; exact fz j, ?_, fun q => ?_⟩, e1'.trans e3⟩
  · rw [World.cell?_setCell_other _ _ _ _ (fun z => by injection z with _ z; omega)]
    exact c1
  · have hl : (V ++ List.replicate (z - n) (0 : Int)).length = z := by simp; omega
    have hm2 : (V ++ List.replicate (z - n) (0 : Int)).map (Value.int .i8) = row8 V ++ (List.replicate z (Value.int .i8 0)).drop (row8 V).length := by
      unfold row8
      rw [List.map_append, List.map_replicate, List.drop_replicate, List.length_map, hn]
    rw [hl, hm2]
    exact own_kept r1 e3 (fun j hj (q : j = b) => hgb (by injection hj with hj; have : g = j := hj; omega))
  · injection q with q
    exact hgb q
theorem VOk.grow {k : Int} {V : List Int} (h : VOk k V) {q : Nat} (hq : V.length + q ≤ 16777216) : VOk k (V ++ List.replicate q 0) := by
  refine ⟨fun x hx => ?_, by simp; omega, ?_, fun x hx => ?_⟩
  · rcases List.mem_append.1 hx with hx | hx
    · exact h.rng x hx
    · rw [List.eq_of_mem_replicate hx]; omega
  · rw [h.cnt]
    unfold nzP
    rw [List.filter_append]
    simp
  · by_cases h0 : V = []
    · subst h0
      simp only [List.nil_append] at hx
      exact List.eq_of_mem_replicate (List.mem_of_getElem? hx)
    · rw [List.getElem?_append_left (by cases V with | nil => exact absurd rfl h0 | cons _ _ => simp)] at hx
      exact h.z0 x hx
set_option maxRecDepth 100000 in
/-- the copy into the new row -/
theorem grow_copy (w : World) (B b : Nat) (va : Value) (k : Int) (V : List Int) (h : AT w B b va k V) (a : Option Addr) (n c z : Nat) (hva : va = .slice a n c) (hn : V.length = n) (hz : n ≤ z) (ty : TypeId) :
    (Builtin.copy_ #[74, 74] ty #[.slice (some ⟨w.heap.size, 0, none⟩) z z, .slice a n c]).run Tryz.prog (w.alloc (.cells (madeCells #[.int .i8 0] z) 61)) = .ok (goInt (row8 V).length) ((w.alloc (.cells (madeCells #[.int .i8 0] z) 61)).setCells w.heap.size 0 (row8 V)) := by
  have hr := h.row
  have hm := World.rowIs_made w (.int .i8 0) z 61
  subst hva
  by_cases h0 : n = 0
  · subst h0
    have hV : V = [] := List.length_eq_zero_iff.1 hn
    subst hV
    exact run_copy_none (P := Tryz.prog) (w.alloc (.cells (madeCells #[.int .i8 0] z) 61)) 74 74 ty 61 (some ⟨w.heap.size, 0, none⟩) a z z 0 c Tryz.underlying74 Tryz.siz61 (by simp)
  · obtain ⟨x, hx⟩ : ∃ x, V[0]? = some x := ⟨_, List.getElem?_eq_getElem (by omega)⟩
    obtain ⟨g, c', e1, hc, _⟩ := row_cell hr (i := 0) (u := .int .i8 x) (by rw [List.getElem?_map, hx]; rfl)
    injection e1 with e1 e2 e3
    subst e1
    refine run_copy_cells (P := Tryz.prog) (w.alloc (.cells (madeCells #[.int .i8 0] z) 61)) 74 74 ty 61 w.heap.size 0 z z ⟨g, 0, none⟩ n c (row8 V) Tryz.underlying74 Tryz.siz61 (by unfold row8; rw [List.length_map, hn]; exact (Nat.min_eq_left hz).symm) (fun j v hj => ?_) (fun j hj => ?_) (fun j hj => ?_) (fun v hv => ?_)
    · obtain ⟨g2, c2, e1, hc2, _⟩ := row_cell hr hj
      injection e1 with e1
      injection e1 with e1
      injection e1 with e1
      rw [Addr.add_mid, Nat.zero_add]
      exact ((Ex.refl (fun _ => False) w).alloc _).cell (fun e => e) (by rw [e1]; exact hc2)
    · have hjl : j < z := by unfold row8 at hj; simp at hj; omega
      rw [Nat.zero_add, hm.cell hjl]; rfl
    · rw [Nat.zero_add]; exact hm.frozen j
    · obtain ⟨x, _, rfl⟩ := List.mem_map.1 hv
      rfl
set_option linter.unusedSimpArgs false in
set_option maxRecDepth 100000 in
set_option maxHeartbeats 8000000 in
/-- cnf.Assignment.Grow -/
theorem growA_any (w : World) (B b : Nat) (va : Value) (k : Int) (V : List Int) (h : AT w B b va k V) (hB : B ≤ w.heap.size) (hl : V.length ≤ 16777216) (m : Int) (hm : -9223372036854775808 ≤ m ∧ m ≤ 9223372036854775807) :
    Calls Tryz.prog 30 #[.pointer (some ⟨b, 0, none⟩), .int .i64 m] w (AgPost w B b va k (growP V m)) := by
  have c0 := h.c0
  obtain ⟨a, c, hva⟩ := own_form h.row
  rw [hva] at c0
  obtain ⟨n, hn⟩ : ∃ n, V.length = n := ⟨_, rfl⟩
  rw [hn] at c0 hva hl
  have HGP : Hid (growP V m = if (if 16777215 < m then 16777215 else m) < (n : Int) then V else V ++ List.replicate (gszP n (if 16777215 < m then 16777215 else m).toNat - n) 0) := by show _ = _; unfold growP; rw [hn]
  have HRET := hide (show AgPost w B b va k V (.returned (.tuple #[])) w from ⟨rfl, Ex.refl _ _, va, h, fun j hj => .inl hj⟩)
  have HGO : Hid (∀ z, n ≤ z → z ≤ 16777216 → AgPost w B b va k (V ++ List.replicate (z - n) 0) (.returned (.tuple #[])) (((w.alloc (.cells (madeCells #[.int .i8 0] z) 61)).setCells w.heap.size 0 (row8 V)).setCell ⟨b, 0, none⟩ (.slice (some ⟨w.heap.size, 0, none⟩) z z))) := fun z h1 h2 => by
    obtain ⟨g1, g2⟩ := grow_store h hB hn h1 (by unfold maxLen; omega) rfl
    exact ⟨rfl, g2.mono (fun j hj => .inl hj), _, g1, fun j hj => .inr (by injection hj with hj; have : w.heap.size = j := hj; omega)⟩
  have HMK : Hid (∀ z : Nat, z ≤ 16777216 → (Instr.makeSlice 74 (.int .i64 (z : Int)) (.int .i64 (z : Int))).run Tryz.prog w = .ok (.slice (some ⟨w.heap.size, 0, none⟩) z z) (w.alloc (.cells (madeCells #[.int .i8 0] z) 61))) := fun z hz => run_make_row' (P := Tryz.prog) 74 61 (.int .i8 0) 1 Tryz.underlying74 Tryz.inf61 rfl .i64 .i64 z (by omega) (by omega) w
  have HCP : Hid (∀ z ty, n ≤ z → (Builtin.copy_ #[74, 74] ty #[.slice (some ⟨w.heap.size, 0, none⟩) z z, .slice a n c]).run Tryz.prog (w.alloc (.cells (madeCells #[.int .i8 0] z) 61)) = .ok (goInt (row8 V).length) ((w.alloc (.cells (madeCells #[.int .i8 0] z) 61)).setCells w.heap.size 0 (row8 V))) := fun z ty hz => grow_copy w B b va k V h a n c z hva hn hz ty
  have HC0 : Hid (∀ z, (w.alloc (.cells (madeCells #[.int .i8 0] z) 61)).cell? ⟨b, 0, none⟩ = some (.slice a n c)) := fun z => ((Ex.refl (fun _ => False) w).alloc _).cell (fun e => e) c0
  have HC1 : Hid (∀ z, ((w.alloc (.cells (madeCells #[.int .i8 0] z) 61)).setCells w.heap.size 0 (row8 V)).cell? ⟨b, 0, none⟩ = some (.slice a n c)) := fun z => (Ex.sets (S := fun j => j = w.heap.size) (p := w.heap.size) rfl _ _ _ (((Ex.refl (fun _ => False) w).alloc _).mono (fun _ z => z.elim))).cell (q := b) (by have := h.lt; omega) c0
  have HF1 : Hid (∀ z, ((w.alloc (.cells (madeCells #[.int .i8 0] z) 61)).setCells w.heap.size 0 (row8 V)).frozen? ⟨b, 0, none⟩ = false) := fun z => ((Ex.sets (S := fun j => j = w.heap.size) (p := w.heap.size) rfl _ _ _ (((Ex.refl (fun _ => False) w).alloc _).mono (fun _ z => z.elim))).frozen (q := b) (by have := h.lt; omega) h.lt).trans (h.fz 0)
  clear h hva hn
  by_cases hbig : 16777215 < m
  · have d1 : decide (16777215 < m) = true := decide_eq_true hbig
    rw [if_pos hbig] at HGP
    by_cases hlt : (16777215 : Int) < (n : Int)
    · have d2 : decide ((16777215 : Int) < (n : Int)) = true := decide_eq_true hlt
      rw [if_pos hlt] at HGP
      rw [HGP.out]
      clear HGP HGO HMK HCP HC0 HC1 HF1
      go_enter Tryz.func30, Tryz.ntmps30
      go_wp2_with (first | with_reducible refine bodyPost_ret (v := .tuple #[]) ?hr ?hd ?hp | with_reducible refine bodyPost_nrm (v := .tuple #[]) ?hr ?hd ?hp)
      case hr => exact results_nil Tryz.results30
      case hd => rfl
      case hp => exact HRET.out
    · have d2 : decide ((16777215 : Int) < (n : Int)) = false := decide_eq_false hlt
      have d2n : ¬ 16777215 < n := by omega
      rw [if_neg hlt, show (16777215 : Int).toNat = 16777215 from rfl] at HGP
      by_cases h4 : 2 * n < 16777216
      · have hz : gszP n 16777215 = 16777216 := by unfold gszP; rw [if_pos h4]
        have HGZ : Hid (growP V m = V ++ List.replicate (16777216 - n) 0) := by show _ = _; rw [HGP.out, hz]
        have d4 : decide (2 * (n : Int) < 16777216) = true := decide_eq_true (by omega)
        clear hz
        have hmk := HMK.out 16777216 (by omega)
        rw [show ((16777216 : Nat) : Int) = 16777216 from rfl] at hmk
        have hcp := fun ty => HCP.out 16777216 ty (by omega)
        have y0 := HC0.out 16777216
        have y1 := HC1.out 16777216
        have yf := HF1.out 16777216
        have HP := hide (HGO.out 16777216 (by omega) (by omega))
        rw [HGZ.out]
        clear HGP HRET HGO HMK HCP HC0 HC1 HF1 HGZ
        go_enter Tryz.func30, Tryz.ntmps30
        go_wp2_with (first | with_reducible refine bodyPost_ret (v := .tuple #[]) ?hr ?hd ?hp | with_reducible refine bodyPost_nrm (v := .tuple #[]) ?hr ?hd ?hp)
        case hr => exact results_nil Tryz.results30
        case hd => rfl
        case hp => exact HP.out
      · have d4 : decide (2 * (n : Int) < 16777216) = false := decide_eq_false (by omega)
        by_cases h5 : 16777216 < 2 * n
        · have hz : gszP n 16777215 = 16777216 := by unfold gszP; rw [if_neg h4, if_pos h5]
          have HGZ : Hid (growP V m = V ++ List.replicate (16777216 - n) 0) := by show _ = _; rw [HGP.out, hz]
          have d5 : decide ((16777216 : Int) < 2 * (n : Int)) = true := decide_eq_true (by omega)
          clear hz
          have hmk := HMK.out 16777216 (by omega)
          rw [show ((16777216 : Nat) : Int) = 16777216 from rfl] at hmk
          have hcp := fun ty => HCP.out 16777216 ty (by omega)
          have y0 := HC0.out 16777216
          have y1 := HC1.out 16777216
          have yf := HF1.out 16777216
          have HP := hide (HGO.out 16777216 (by omega) (by omega))
          rw [HGZ.out]
          clear HGP HRET HGO HMK HCP HC0 HC1 HF1 HGZ
          go_enter Tryz.func30, Tryz.ntmps30
          go_wp2_with (first | with_reducible refine bodyPost_ret (v := .tuple #[]) ?hr ?hd ?hp | with_reducible refine bodyPost_nrm (v := .tuple #[]) ?hr ?hd ?hp)
          case hr => exact results_nil Tryz.results30
          case hd => rfl
          case hp => exact HP.out
        · have hz : gszP n 16777215 = 16777216 := by unfold gszP; rw [if_neg h4, if_neg h5]; omega
          have HGZ : Hid (growP V m = V ++ List.replicate (16777216 - n) 0) := by show _ = _; rw [HGP.out, hz]
          have h2n : 2 * (n : Int) = 16777216 := by omega
          clear hz
          have hmk := HMK.out 16777216 (by omega)
          rw [show ((16777216 : Nat) : Int) = 16777216 from rfl] at hmk
          have hcp := fun ty => HCP.out 16777216 ty (by omega)
          have y0 := HC0.out 16777216
          have y1 := HC1.out 16777216
          have yf := HF1.out 16777216
          have HP := hide (HGO.out 16777216 (by omega) (by omega))
          rw [HGZ.out]
          clear HGP HRET HGO HMK HCP HC0 HC1 HF1 HGZ
          go_enter Tryz.func30, Tryz.ntmps30
          go_wp2_with (first | with_reducible refine bodyPost_ret (v := .tuple #[]) ?hr ?hd ?hp | with_reducible refine bodyPost_nrm (v := .tuple #[]) ?hr ?hd ?hp)
          case hr => exact results_nil Tryz.results30
          case hd => rfl
          case hp => exact HP.out
  · have d1 : decide (16777215 < m) = false := decide_eq_false hbig
    rw [if_neg hbig] at HGP
    by_cases hlt : m < (n : Int)
    · have d2 : decide (m < (n : Int)) = true := decide_eq_true hlt
      rw [if_pos hlt] at HGP
      rw [HGP.out]
      clear HGP HGO HMK HCP HC0 HC1 HF1
      go_enter Tryz.func30, Tryz.ntmps30
      go_wp2_with (first | with_reducible refine bodyPost_ret (v := .tuple #[]) ?hr ?hd ?hp | with_reducible refine bodyPost_nrm (v := .tuple #[]) ?hr ?hd ?hp)
      case hr => exact results_nil Tryz.results30
      case hd => rfl
      case hp => exact HRET.out
    · have d2 : decide (m < (n : Int)) = false := decide_eq_false hlt
      rw [if_neg hlt] at HGP
      obtain ⟨M, rfl⟩ : ∃ M : Nat, m = (M : Int) := ⟨m.toNat, by omega⟩
      have d2n : ¬ M < n := by omega
      have hM : M ≤ 16777215 := by omega
      rw [Int.toNat_natCast] at HGP
      by_cases h4 : 2 * n < M + 1
      · have hz : gszP n M = M + 1 := by unfold gszP; rw [if_pos h4]
        obtain ⟨z, hzz⟩ : ∃ z, M + 1 = z := ⟨_, rfl⟩
        have HGZ : Hid (growP V (M : Int) = V ++ List.replicate (z - n) 0) := by show _ = _; rw [HGP.out, hz, hzz]
        have hMz : (M : Int) + 1 = (z : Int) := by omega
        have d4 : decide (2 * (n : Int) < (z : Int)) = true := decide_eq_true (by omega)
        have d4n : 2 * n < z := by omega
        have d5 : decide ((16777216 : Int) < (z : Int)) = false := decide_eq_false (by omega)
        have d5n : ¬ 16777216 < z := by omega
        clear hz hzz
        have hmk := HMK.out z (by omega)
        have hcp := fun ty => HCP.out z ty (by omega)
        have y0 := HC0.out z
        have y1 := HC1.out z
        have yf := HF1.out z
        have HP := hide (HGO.out z (by omega) (by omega))
        rw [HGZ.out]
        clear HGP HRET HGO HMK HCP HC0 HC1 HF1 HGZ
        go_enter Tryz.func30, Tryz.ntmps30
        go_wp2_with (first | with_reducible refine bodyPost_ret (v := .tuple #[]) ?hr ?hd ?hp | with_reducible refine bodyPost_nrm (v := .tuple #[]) ?hr ?hd ?hp)
        case hr => exact results_nil Tryz.results30
        case hd => rfl
        case hp => exact HP.out
      · by_cases h5 : 16777216 < 2 * n
        · have hz : gszP n M = 16777216 := by unfold gszP; rw [if_neg h4, if_pos h5]
          have HGZ : Hid (growP V (M : Int) = V ++ List.replicate (16777216 - n) 0) := by show _ = _; rw [HGP.out, hz]
          have d4 : decide (2 * (n : Int) < (M : Int) + 1) = false := decide_eq_false (by omega)
          have d5 : decide ((16777216 : Int) < 2 * (n : Int)) = true := decide_eq_true (by omega)
          clear hz
          have hmk := HMK.out 16777216 (by omega)
          rw [show ((16777216 : Nat) : Int) = 16777216 from rfl] at hmk
          have hcp := fun ty => HCP.out 16777216 ty (by omega)
          have y0 := HC0.out 16777216
          have y1 := HC1.out 16777216
          have yf := HF1.out 16777216
          have HP := hide (HGO.out 16777216 (by omega) (by omega))
          rw [HGZ.out]
          clear HGP HRET HGO HMK HCP HC0 HC1 HF1 HGZ
          go_enter Tryz.func30, Tryz.ntmps30
          go_wp2_with (first | with_reducible refine bodyPost_ret (v := .tuple #[]) ?hr ?hd ?hp | with_reducible refine bodyPost_nrm (v := .tuple #[]) ?hr ?hd ?hp)
          case hr => exact results_nil Tryz.results30
          case hd => rfl
          case hp => exact HP.out
        · have hz : gszP n M = 2 * n := by unfold gszP; rw [if_neg h4, if_neg h5]
          obtain ⟨z, hzz⟩ : ∃ z, 2 * n = z := ⟨_, rfl⟩
          have HGZ : Hid (growP V (M : Int) = V ++ List.replicate (z - n) 0) := by show _ = _; rw [HGP.out, hz, hzz]
          have h2z : 2 * (n : Int) = (z : Int) := by omega
          have d4 : decide ((z : Int) < (M : Int) + 1) = false := decide_eq_false (by omega)
          have d4n : ¬ z < M + 1 := by omega
          have d5 : decide ((16777216 : Int) < (z : Int)) = false := decide_eq_false (by omega)
          have d5n : ¬ 16777216 < z := by omega
          clear hz hzz
          have hmk := HMK.out z (by omega)
          have hcp := fun ty => HCP.out z ty (by omega)
          have y0 := HC0.out z
          have y1 := HC1.out z
          have yf := HF1.out z
          have HP := hide (HGO.out z (by omega) (by omega))
          rw [HGZ.out]
          clear HGP HRET HGO HMK HCP HC0 HC1 HF1 HGZ
          go_enter Tryz.func30, Tryz.ntmps30
          go_wp2_with (first | with_reducible refine bodyPost_ret (v := .tuple #[]) ?hr ?hd ?hp | with_reducible refine bodyPost_nrm (v := .tuple #[]) ?hr ?hd ?hp)
          case hr => exact results_nil Tryz.results30
          case hd => rfl
          case hp => exact HP.out
end Go.Proofs.Qxb6500773aGreat
