import Derived.Test.Qxb6500776aScan
import Derived.Test.Qxb6500776aRows
import Derived.ProofKit
import Derived.OpenShut
import Derived.Deep.Slices
namespace Go.Proofs.Qxb6500776a
open Go.ChangeShapes Go.WideShapes Go.ChangeAt Go.RowKit Go.Deep

/-- The script: len steps of six numbers each lie behind the address. -/
def OpsAt (w : World) (a : Option Addr) (len : Nat) (f : Nat → Nat → Int) : Prop :=
  ∀ i, i < len → ∃ b off, a = some ⟨b, off, none⟩ ∧ ∀ j, j < 6 → w.cell? ⟨b, off + i * 6 + j, none⟩ = some (.int .i64 (f i j)) ∧ -9223372036854775808 ≤ f i j ∧ f i j < 9223372036854775808
/-- sensorslaw.zzSmall1. -/
theorem small_any (w : World) (a : Option Addr) (n cap : Nat) (hn : n ≤ 9223372036854775807) :
    Calls Try.prog 10 #[.slice a n cap] w fun e w' => e = .returned (.bool (decide (n ≤ 65536))) ∧ w' = w := by
  by_cases h : n ≤ 65536
  · go_enter Try.func10, Try.ntmps10
    go_wp2
    go_ret
    exact ⟨by simp [h], rfl⟩
  · go_enter Try.func10, Try.ntmps10
    go_wp2
    go_ret
    exact ⟨by simp [h], rfl⟩
theorem Try.cells32 : Try.prog.cellsOf 32 = 6 := by kernel_rfl
theorem Try.cells30 : Try.prog.cellsOf 30 = 1 := by kernel_rfl
theorem Try.cells2 : Try.prog.cellsOf 2 = 1 := by kernel_rfl
theorem wf_i64 {x : Int} (h : (Lit.int .i64 x).wf = true) : -9223372036854775808 ≤ x ∧ x < 9223372036854775808 := by
  simp [Lit.wf, IntKind.min, IntKind.max, IntKind.signed, IntKind.bits] at h
  omega
theorem take1 {cs : List Value} {j : Nat} {v : Value} (h : (cs.drop j).take 1 = [v]) : cs[j]? = some v := by
  have := congrArg (·[0]?) h
  simpa [List.getElem?_take, List.getElem?_drop] using this
/-- One step of the script: its six cells. -/
theorem op_cells {H : Type} {enc : TypeId × Value → H} {w : World} {base fuel : Nat} {spare : Nat → Bool} {held : Bool} {cs : List Value} {x : DataW H × List MemPlace} (h : DataW.trod enc Try.prog w base spare held fuel 32 cs = some x) :
    ∀ j, j < 6 → ∃ n, cs[j]? = some (.int .i64 n) ∧ -9223372036854775808 ≤ n ∧ n < 9223372036854775808 := by
  obtain ⟨xs, n, _, _, _, hl, hf⟩ := DataW.trod_struct Try.underlying32 h
  have hx : ∀ j, j < 6 → ∃ y, xs[j]? = some y := fun j hj => ⟨xs[j]'(by rw [hl]; exact hj), List.getElem?_eq_getElem _⟩
  intro j hj
  obtain ⟨y, hy⟩ := hx j hj
  have key : ∀ t, Try.prog.underlying t = some (.int .i64) → Try.prog.cellsOf t = 1 → DataW.trod enc Try.prog w base spare held n t ((cs.drop j).take (Try.prog.cellsOf t)) = xs[j]? → ∃ n, cs[j]? = some (.int .i64 n) ∧ -9223372036854775808 ≤ n ∧ n < 9223372036854775808 := by
    intro t ht hc hd
    rw [hc, hy] at hd
    obtain ⟨z, hz, _, hw⟩ := DataW.trod_int ht hd
    exact ⟨z, take1 hz, wf_i64 hw⟩
  rcases (by omega : j = 0 ∨ j = 1 ∨ j = 2 ∨ j = 3 ∨ j = 4 ∨ j = 5) with h | h | h | h | h | h
  · subst h; exact key 30 Try.underlying30 Try.cells30 (hf 0 _ rfl)
  · subst h; exact key 2 Try.underlying2 Try.cells2 (hf 1 _ rfl)
  · subst h; exact key 2 Try.underlying2 Try.cells2 (hf 2 _ rfl)
  · subst h; exact key 2 Try.underlying2 Try.cells2 (hf 3 _ rfl)
  · subst h; exact key 2 Try.underlying2 Try.cells2 (hf 4 _ rfl)
  · subst h; exact key 2 Try.underlying2 Try.cells2 (hf 5 _ rfl)
/-- What the argument's reading says of memory. -/
theorem ops_open {H : Type} {enc : TypeId × Value → H} {w : World} {fuel : Nat} {a : Option Addr} {len cap : Nat} {x : DataW H × List MemPlace} (h : DataW.trod enc Try.prog w 0 (fun _ => true) true fuel 22 [.slice a len cap] = some x) :
    len ≤ 9223372036854775807 ∧ ∃ f, OpsAt w a len f := by
  rcases open_slice Try.underlying22 h with ⟨hcs, _⟩ | ⟨ad, len', cap', m, n, D, Pl, hcs, _, hl, hm, hmm, _, hel⟩
  · simp at hcs
    obtain ⟨rfl, rfl, rfl⟩ := hcs
    exact ⟨by omega, fun _ _ => 0, fun i hi => by omega⟩
  · simp at hcs
    obtain ⟨rfl, rfl, rfl⟩ := hcs
    simp at hmm
    subst hmm
    rw [Try.cells32] at hel
    unfold maxLen at hm
    refine ⟨by omega, ?_⟩
    by_cases hl0 : len = 0
    · exact ⟨fun _ _ => 0, fun i hi => by omega⟩
    have cell : ∀ i, i < len → ∀ j, j < 6 → ∃ n, w.cell? ((ad.add (i * 6)).add j) = some (.int .i64 n) ∧ -9223372036854775808 ≤ n ∧ n < 9223372036854775808 := by
      intro i hi j hj
      obtain ⟨cs', hc, ht⟩ := hel i (by omega)
      obtain ⟨_, _, hg⟩ := World.cells?_some hc
      obtain ⟨z, hz, hb⟩ := op_cells ht j hj
      exact ⟨z, (hg j hj).trans hz, hb⟩
    obtain ⟨b, off, spot⟩ := ad
    have hspot : spot = none := by
      obtain ⟨z, hz, _⟩ := cell 0 (by omega) 0 (by omega)
      simpa [Addr.add] using World.cell?_spot hz
    subst hspot
    refine ⟨fun i j => intOf ((w.cell? ⟨b, off + i * 6 + j, none⟩).getD undef), fun i hi => ⟨b, off, rfl, fun j hj => ?_⟩⟩
    obtain ⟨z, hz, hb⟩ := cell i hi j hj
    have hz' : w.cell? ⟨b, off + i * 6 + j, none⟩ = some (.int .i64 z) := by rw [add_plain, add_plain] at hz; exact hz
    have e : intOf ((w.cell? ⟨b, off + i * 6 + j, none⟩).getD undef) = z := by rw [hz']; rfl
    show w.cell? _ = some (.int .i64 (intOf ((w.cell? ⟨b, off + i * 6 + j, none⟩).getD undef))) ∧ -9223372036854775808 ≤ intOf ((w.cell? ⟨b, off + i * 6 + j, none⟩).getD undef) ∧ intOf ((w.cell? ⟨b, off + i * 6 + j, none⟩).getD undef) < 9223372036854775808
    rw [e]
    exact ⟨hz', hb⟩
/-- worldm.New -/
theorem newW_any (w : World) : Calls Try.prog 11 #[] w fun e w' => e = .returned (.pointer (some ⟨w.heap.size, 0, none⟩)) ∧ w' = w.alloc (.cells #[.slice none 0 0, .slice none 0 0] 44) := by
  go_enter Try.func11, Try.ntmps11
  go_wp2
  go_ret
  exact ⟨rfl, rfl⟩
theorem newS_any (w : World) : Calls Try.prog 12 #[] w fun e w' => e = .returned (.pointer (some ⟨w.heap.size, 0, none⟩)) ∧ w' = w.alloc (.cells Try.zeroCells75 75) := by
  go_enter Try.func12, Try.ntmps12
  go_wp2
  go_ret
  exact ⟨rfl, rfl⟩
theorem zero75 : Try.zeroCells75.size = 4790 := by kernel_rfl
theorem newS_cb (w : World) : ∃ C, CB (w.alloc (.cells Try.zeroCells75 75)) w.heap.size C := by
  have hb : (w.alloc (.cells Try.zeroCells75 75)).heap[w.heap.size]? = some (.cells Try.zeroCells75 75) := heap_alloc_new w _
  refine ⟨fun j => (Try.zeroCells75[j]?).getD undef, fun j hj => ?_, fun j => by simp [go_sem], ⟨_, _, hb⟩⟩
  unfold World.cell?
  simp only [hb]
  have : j < Try.zeroCells75.size := by rw [zero75]; exact hj
  rw [Array.getElem?_eq_getElem this]
  rfl
/-- A law's world p and scanner s, behind the world w0 in which the law began. -/
structure LW (w0 wr : World) (p s : Nat) (v1 v2 : Value) (L : List Shp) (M : List Smk) : Prop where
  wd : WD wr p v1 v2 L M
  wo : WOk L M
  cb : ∃ C, CB wr s C
  nf : ¬ Foot p v1 v2 s
  ff : ∀ k, Foot p v1 v2 k → w0.heap.size ≤ k
  fs : w0.heap.size ≤ s
  bel : Below w0.heap.size w0 wr
theorem newW_wd (w : World) : WD (w.alloc (.cells #[.slice none 0 0, .slice none 0 0] 44)) w.heap.size (.slice none 0 0) (.slice none 0 0) [] [] :=
  ⟨by simp [go_sem], by simp [go_sem], fun j => by simp [go_sem], ⟨_, _, heap_alloc_new w _⟩, World.ownsRow_nil _ _ _ _, World.ownsRow_nil _ _ _ _⟩
theorem WOk.nil : WOk [] [] := ⟨by simp, fun s hs => by simp at hs, by simp, fun s hs => by simp at hs⟩
theorem foot_nil {p k : Nat} (h : Foot p (.slice none 0 0) (.slice none 0 0) k) : k = p := by
  rcases h with h | h | h
  · exact h
  · simp [Value.ownBlock] at h
  · simp [Value.ownBlock] at h
theorem LW.first (w : World) : LW w ((w.alloc (.cells #[.slice none 0 0, .slice none 0 0] 44)).alloc (.cells Try.zeroCells75 75)) w.heap.size (w.heap.size + 1) (.slice none 0 0) (.slice none 0 0) [] [] := by
  have hs : (w.alloc (.cells #[.slice none 0 0, .slice none 0 0] 44)).heap.size = w.heap.size + 1 := by simp
  obtain ⟨C, hC⟩ := newS_cb (w.alloc (.cells #[.slice none 0 0, .slice none 0 0] 44))
  rw [hs] at hC
  refine ⟨(newW_wd w).keep ((Ex.refl (fun _ => False) _).alloc _) (fun _ _ e => e), WOk.nil, ⟨C, hC⟩, fun h => ?_, fun k h => ?_, by omega, be2 _ _ _⟩
  · have := foot_nil h; omega
  · have := foot_nil h; omega
section
variable {w0 wr w' : World} {p s : Nat} {v1 v2 : Value} {L : List Shp} {M : List Smk}
theorem LW.below (h : LW w0 wr p s v1 v2 L M) (hb : Below wr.heap.size wr w') : LW w0 w' p s v1 v2 L M := by
  obtain ⟨C, hC⟩ := h.cb
  exact ⟨h.wd.keep (Ex.of (S := fun _ => False) hb) (fun _ _ e => e), h.wo, ⟨C, hC.below hb⟩, h.nf, h.ff, h.fs, h.bel.trans (hb.mono h.bel.size)⟩
theorem LW.slt (h : LW w0 wr p s v1 v2 L M) : s < wr.heap.size := by
  obtain ⟨C, hC⟩ := h.cb
  exact hC.lt
theorem LW.step (h : LW w0 wr p s v1 v2 L M) {e : Ending} (hp : StPost wr p v1 v2 e w') : ∃ r u1 u2 L' M', e = .returned (.int .i64 r) ∧ LW w0 w' p s u1 u2 L' M' := by
  obtain ⟨r, u1, u2, L', M', rfl, hw, ho, ex, hf⟩ := hp
  obtain ⟨C, hC⟩ := h.cb
  have hsl := h.slt
  have hb := h.bel.size
  refine ⟨r, u1, u2, L', M', rfl, hw, ho, ⟨C, hC.keep ex h.nf⟩, fun e => ?_, fun k hk => ?_, h.fs, h.bel.trans (ex.below hb fun k hk hn => ?_)⟩
  · rcases hf s e with z | z
    · exact h.nf z
    · omega
  · rcases hf k hk with z | z
    · exact h.ff k z
    · omega
  · have := h.ff k hn; omega
/-- Scan, in a law. -/
theorem LW.scan (h : LW w0 wr p s v1 v2 L M) : Calls Try.prog 15 #[.pointer (some ⟨s, 0, none⟩), .pointer (some ⟨p, 0, none⟩)] wr fun e w' => ∃ a n c B, e = .returned (.slice a n c) ∧ DRow w' wr.heap.size (.slice a n c) (repN B 768) ∧ n = (repN B 768).length ∧ BRD w' s B ∧ Bd (DF (L.filter Shp.afloat) M) B ∧ Ex (fun k => k = s) wr w' ∧ LW w0 w' p s v1 v2 L M := by
  obtain ⟨C, hC⟩ := h.cb
  refine (scan_any wr s C p v1 v2 L M hC h.wd h.wo h.nf).mono ?_
  rintro e w' ⟨v, B, rfl, hr, hbr, hbd, hex⟩
  obtain ⟨a, c, rfl⟩ := own_form hr
  have hbr' := hbr
  obtain ⟨C', hC', _⟩ := hbr'
  refine ⟨a, _, c, B, rfl, hr, rfl, hbr, hbd, hex, h.wd.keep hex (fun k hk e => h.nf (e ▸ hk)), h.wo, ⟨C', hC'⟩, h.nf, h.ff, h.fs, h.bel.trans (hex.below h.bel.size fun k hk e => ?_)⟩
  have := h.fs; omega
end
/-! ### has -/
def hasP (Ds : List Det) (T i k : Int) : Bool := Ds.any fun d => d.team == T && d.target == i && d.sensor == k
theorem DRow.at {w : World} {b g n c : Nat} {Ds : List Det} (h : DRow w b (.slice (some ⟨g, 0, none⟩) n c) Ds) (hn : n = Ds.length) {i : Nat} {r : Det} (hi : Ds[i]? = some r) {j : Nat} {v : Value} (hv : r.vals[j]? = some v) : w.cell? ⟨g, i * 6 + j, none⟩ = some v := by
  subst hn
  have hil : i < Ds.length := (List.getElem?_eq_some_iff.1 hi).1
  have hj : j < 6 := (List.getElem?_eq_some_iff.1 hv).1
  have hr : w.ownsRow b 58 6 (.slice (some ⟨g, 0, none⟩) Ds.length c) Ds.length (Ds.flatMap Det.vals) := h
  rw [hr.cellAt (i * 6 + j) (by omega), flat_at _ 6 Det.vals_len Ds i r hi j hj, hv]
theorem has_any (w : World) (b : Nat) (a : Option Addr) (n c : Nat) (Ds : List Det) (h : DRow w b (.slice a n c) Ds) (hn : n = Ds.length) (hl : n ≤ 768) (T i k : Int) :
    Calls Try.prog 19 #[.slice a n c, .int .i64 T, .int .i64 i, .int .i64 k] w fun e w' => e = .returned (.bool (hasP Ds T i k)) ∧ w' = w := by
  have HR := hide h
  have HN := hide hn
  clear h hn
  go_enter Try.func19, Try.ntmps19
  go_wp2
  go_loop [9] (fun x => ∃ j : Nat, j ≤ n ∧ x = .int .i64 j ∧ Hid (∀ (y : Nat) (d : Det), y < j → Ds[y]? = some d → (d.team == T && d.target == i && d.sensor == k) = false)) (fun x => n - (intOf x).toNat)
  case atStart => exact ⟨0, by omega, rfl, hide fun y d hy => by omega⟩
  case round =>
    obtain ⟨j, hj, rfl, HA⟩ := hrel
    by_cases hlt : j < n
    · have hlti : (j : Int) < (n : Int) := by omega
      obtain ⟨d, hd⟩ : ∃ d, Ds[j]? = some d := ⟨_, List.getElem?_eq_getElem (by have := HN.out; omega)⟩
      obtain ⟨g, c2, e⟩ := own_some HR.out (by have := HN.out; omega)
      cases e
      have c0 := HR.out.at HN.out hd (j := 0) (v := .int .i64 d.team) rfl
      have c1 := HR.out.at HN.out hd (j := 1) (v := .int .i64 d.target) rfl
      have c2 := HR.out.at HN.out hd (j := 2) (v := .int .i64 d.sensor) rfl
      rw [Nat.add_zero] at c0
      have HD := hide hd
      clear hd
      cases e1 : (d.team == T)
      · go_wp2
        refine ⟨⟨j + 1, by omega, by go_num, hide fun y d' hy hd' => ?_⟩, by simp [intOf]; omega⟩
        rcases (by omega : y < j ∨ y = j) with z | rfl
        · exact HA.out y d' z hd'
        · rw [HD.out] at hd'; cases hd'; rw [e1]; rfl
      · cases e2 : (d.target == i)
        · go_wp2
          refine ⟨⟨j + 1, by omega, by go_num, hide fun y d' hy hd' => ?_⟩, by simp [intOf]; omega⟩
          rcases (by omega : y < j ∨ y = j) with z | rfl
          · exact HA.out y d' z hd'
          · rw [HD.out] at hd'; cases hd'; rw [e1, e2]; rfl
        · cases e3 : (d.sensor == k)
          · go_wp2
            refine ⟨⟨j + 1, by omega, by go_num, hide fun y d' hy hd' => ?_⟩, by simp [intOf]; omega⟩
            rcases (by omega : y < j ∨ y = j) with z | rfl
            · exact HA.out y d' z hd'
            · rw [HD.out] at hd'; cases hd'; rw [e1, e2, e3]; rfl
          · go_wp2
            go_ret
            refine ⟨ret_bool ?_, rfl⟩
            symm
            rw [hasP, List.any_eq_true]
            exact ⟨d, List.mem_of_getElem? HD.out, by rw [e1, e2, e3]; rfl⟩
    · have hlti : ¬ (j : Int) < (n : Int) := by omega
      obtain rfl : j = n := by omega
      go_wp2
      go_ret
      refine ⟨ret_bool ?_, rfl⟩
      symm
      rw [hasP, List.any_eq_false]
      intro d hd
      obtain ⟨y, hy, rfl⟩ := List.getElem_of_mem hd
      rw [HA.out y _ (by have := HN.out; omega) (List.getElem?_eq_getElem hy)]
      simp
/-! ### The list and the board -/
theorem rep_mem (B : Brd) (d : Det) : ∀ n, d ∈ repN B n ↔ ∃ m, m < n ∧ (lkP B (m / 192 : Nat) (m % 192 / 4 : Nat) (m % 4 : Nat)).2 = true ∧ d = (lkP B (m / 192 : Nat) (m % 192 / 4 : Nat) (m % 4 : Nat)).1
  | 0 => by simp [repN]
  | n + 1 => by
    rw [repN, List.mem_append, rep_mem B d n]
    constructor
    · rintro (⟨m, hm, h⟩ | h)
      · exact ⟨m, by omega, h⟩
      · split at h
        · next hc => exact ⟨n, by omega, hc, by simpa using h⟩
        · simp at h
    · rintro ⟨m, hm, h1, h2⟩
      rcases (by omega : m < n ∨ m = n) with z | rfl
      · exact .inl ⟨m, z, h1, h2⟩
      · right; rw [if_pos h1, h2]; simp
theorem lk_fields {B : Brd} {T i k : Int} (h : (lkP B T i k).2 = true) : (lkP B T i k).1.team = T ∧ (lkP B T i k).1.target = i ∧ (lkP B T i k).1.sensor = k ∧ 0 ≤ T ∧ T < 4 ∧ 0 ≤ i ∧ i < 48 ∧ 0 ≤ k ∧ k < 4 ∧ (B T.toNat i.toNat k.toNat).seen = true ∧ (lkP B T i k).1.obs = (B T.toNat i.toNat k.toNat).obs ∧ (lkP B T i k).1.d = (B T.toNat i.toNat k.toNat).d ∧ (lkP B T i k).1.g = (B T.toNat i.toNat k.toNat).g := by
  unfold lkP at h ⊢
  split at h
  · next hr =>
    split at h
    · next hs =>
      simp only [if_pos hr, if_pos hs]
      exact ⟨trivial, trivial, trivial, hr.1, hr.2.1, hr.2.2.1, hr.2.2.2.1, hr.2.2.2.2.1, hr.2.2.2.2.2, hs, trivial, trivial, trivial⟩
    · simp at h
  · simp at h
/-- The list holds a record exactly where the board has a mark. -/
theorem has_rep (B : Brd) (T i k : Int) : hasP (repN B 768) T i k = (lkP B T i k).2 := by
  rw [Bool.eq_iff_iff, hasP, List.any_eq_true]
  constructor
  · rintro ⟨d, hd, he⟩
    obtain ⟨m, hm, h1, rfl⟩ := (rep_mem B d 768).1 hd
    obtain ⟨e1, e2, e3, _⟩ := lk_fields h1
    simp only [Bool.and_eq_true, beq_iff_eq] at he
    obtain ⟨⟨a, b⟩, c⟩ := he
    rw [e1] at a
    rw [e2] at b
    rw [e3] at c
    rw [← a, ← b, ← c]; exact h1
  · intro h
    obtain ⟨e1, e2, e3, t0, t1, i0, i1, k0, k1, _⟩ := lk_fields h
    refine ⟨(lkP B T i k).1, (rep_mem B _ 768).2 ⟨T.toNat * 192 + i.toNat * 4 + k.toNat, by omega, ?_⟩, by rw [e1, e2, e3]; simp⟩
    have a1 : ((T.toNat * 192 + i.toNat * 4 + k.toNat) / 192 : Nat) = T.toNat := by omega
    have a2 : ((T.toNat * 192 + i.toNat * 4 + k.toNat) % 192 / 4 : Nat) = i.toNat := by omega
    have a3 : ((T.toNat * 192 + i.toNat * 4 + k.toNat) % 4 : Nat) = k.toNat := by omega
    rw [a1, a2, a3, Int.toNat_of_nonneg t0, Int.toNat_of_nonneg i0, Int.toNat_of_nonneg k0]
    exact ⟨h, rfl⟩
theorem same_id {L : List Shp} {M : List Smk} (ho : WOk L M) {a b : Shp} (ha : a ∈ L) (hb : b ∈ L) (h : a.id = b.id) : a = b := by
  have hn := ho.nd
  rw [List.nodup_iff_pairwise_ne, List.pairwise_map, List.pairwise_iff_getElem] at hn
  obtain ⟨i, hi, rfl⟩ := List.getElem_of_mem ha
  obtain ⟨j, hj, rfl⟩ := List.getElem_of_mem hb
  rcases (by omega : i < j ∨ i = j ∨ j < i) with z | rfl | z
  · exact (hn i j hi hj z h).elim
  · rfl
  · exact (hn j i hj hi z h.symm).elim
/-- What a record means. -/
theorem lk_iff {L : List Shp} {M : List Smk} {B : Brd} (ho : WOk L M) (hb : Bd (DF (L.filter Shp.afloat) M) B) {t : Shp} (ht : t ∈ L) {T : Int} {k : Nat} (hT : 0 ≤ T ∧ T < 4) (hk : k < 4) :
    (lkP B T t.id k).2 = L.any fun o => (o.team == T) && liveP o t && seeP M o t k := by
  have hid := (ho.ok t ht).id
  rw [Bool.eq_iff_iff, List.any_eq_true]
  constructor
  · intro h
    obtain ⟨_, _, _, _, _, _, _, _, _, hs, _⟩ := lk_fields h
    obtain ⟨o, t', hd, h1, h2, _⟩ := hb.some _ _ _ hs
    obtain ⟨hoA, _, hse, htA, hne⟩ := hd
    rw [List.mem_filter] at hoA htA
    have e : t' = t := same_id ho htA.1 ht (by rw [h2]; exact Int.toNat_of_nonneg hid.1)
    subst e
    refine ⟨o, hoA.1, ?_⟩
    have hk2 : (k : Int).toNat = k := by omega
    rw [hk2] at hse
    simp only [Bool.and_eq_true, beq_iff_eq]
    refine ⟨⟨by rw [h1]; exact Int.toNat_of_nonneg hT.1, ?_⟩, hse⟩
    unfold liveP
    simp only [Bool.and_eq_true, bne_iff_ne, ne_eq]
    exact ⟨⟨hoA.2, htA.2⟩, fun e => hne e.symm⟩
  · rintro ⟨o, hoL, he⟩
    simp only [Bool.and_eq_true, beq_iff_eq] at he
    obtain ⟨⟨h1, h2⟩, h3⟩ := he
    unfold liveP at h2
    simp only [Bool.and_eq_true, bne_iff_ne, ne_eq] at h2
    have hD : DF (L.filter Shp.afloat) M o t k := ⟨List.mem_filter.2 ⟨hoL, h2.1.1⟩, hk, h3, List.mem_filter.2 ⟨ht, h2.1.2⟩, fun e => h2.2 e.symm⟩
    have hs : (B T.toNat t.id.toNat k).seen = true := by
      cases e : (B T.toNat t.id.toNat k).seen
      · exact (hb.none _ _ _ e o t hD (by rw [h1]; exact (Int.toNat_of_nonneg hT.1).symm) (Int.toNat_of_nonneg hid.1).symm).elim
      · rfl
    unfold lkP
    rw [if_pos ⟨hT.1, hT.2, hid.1, hid.2, by omega, by omega⟩]
    have hk2 : (k : Int).toNat = k := by omega
    rw [hk2, if_pos hs]
end Go.Proofs.Qxb6500776a
