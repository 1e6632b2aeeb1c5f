import Derived.Test.Qxb6500777aLf
namespace Go.Proofs.Qxb6500777a
open Go.RowKit

/-- tracks.before -/
theorem before_any (w : World) (a b : Trk) : Calls Try.prog 62 #[.agg #[.int .i64 a.num, .int .i64 a.x, .int .i64 a.y, .int .i64 a.co, .int .i64 a.sp, .int .i64 a.st, .int .i64 a.ag], .agg #[.int .i64 b.num, .int .i64 b.x, .int .i64 b.y, .int .i64 b.co, .int .i64 b.sp, .int .i64 b.st, .int .i64 b.ag]] w fun e w' => e = .returned (.bool (beforeP a b)) ∧ Below w.heap.size w w' := by
  by_cases h0 : a.x = b.x
  · have e0 : (a.x != b.x) = false := by simp [h0]
    have H0 := hide h0
    clear h0
    by_cases h1 : a.y = b.y
    · have e1 : (a.y != b.y) = false := by simp [h1]
      have H1 := hide h1
      clear h1
      by_cases h2 : a.co = b.co
      · have e2 : (a.co != b.co) = false := by simp [h2]
        have H2 := hide h2
        clear h2
        go_enter Try.func62, Try.ntmps62
        go_wp2
        go_ret
        exact ⟨ret_bool (by simp [beforeP, H0.out, H1.out, H2.out]), be2 _ _ _⟩
      · have e2 : (a.co != b.co) = true := by simp [h2]
        have H2 := hide h2
        clear h2
        go_enter Try.func62, Try.ntmps62
        go_wp2
        go_ret
        exact ⟨ret_bool (by simp [beforeP, H0.out, H1.out, H2.out]), be2 _ _ _⟩
    · have e1 : (a.y != b.y) = true := by simp [h1]
      have H1 := hide h1
      clear h1
      go_enter Try.func62, Try.ntmps62
      go_wp2
      go_ret
      exact ⟨ret_bool (by simp [beforeP, H0.out, H1.out]), be2 _ _ _⟩
  · have e0 : (a.x != b.x) = true := by simp [h0]
    have H0 := hide h0
    clear h0
    go_enter Try.func62, Try.ntmps62
    go_wp2
    go_ret
    exact ⟨ret_bool (by simp [beforeP, H0.out]), be2 _ _ _⟩
/-- tracks.worse -/
theorem worse_any (w : World) (a b : Trk) : Calls Try.prog 83 #[.agg #[.int .i64 a.num, .int .i64 a.x, .int .i64 a.y, .int .i64 a.co, .int .i64 a.sp, .int .i64 a.st, .int .i64 a.ag], .agg #[.int .i64 b.num, .int .i64 b.x, .int .i64 b.y, .int .i64 b.co, .int .i64 b.sp, .int .i64 b.st, .int .i64 b.ag]] w fun e w' => e = .returned (.bool (worseP a b)) ∧ Below w.heap.size w w' := by
  by_cases h0 : a.ag = b.ag
  · have e0 : (a.ag != b.ag) = false := by simp [h0]
    have H0 := hide h0
    clear h0
    by_cases h1 : a.st = b.st
    · have e1 : (a.st != b.st) = false := by simp [h1]
      have H1 := hide h1
      clear h1
      go_enter Try.func83, Try.ntmps83
      go_wp2
      go_ret
      exact ⟨ret_bool (by simp [worseP, H0.out, H1.out]), be2 _ _ _⟩
    · have e1 : (a.st != b.st) = true := by simp [h1]
      have H1 := hide h1
      clear h1
      go_enter Try.func83, Try.ntmps83
      go_wp2
      go_ret
      exact ⟨ret_bool (by simp [worseP, H0.out, H1.out]), be2 _ _ _⟩
  · have e0 : (a.ag != b.ag) = true := by simp [h0]
    have H0 := hide h0
    clear h0
    go_enter Try.func83, Try.ntmps83
    go_wp2
    go_ret
    exact ⟨ret_bool (by simp [worseP, H0.out]), be2 _ _ _⟩
/-- A record of the sensors. -/
structure Det where
  team : Int
  target : Int
  sensor : Int
  grade : Int
deriving DecidableEq
def Det.vals (d : Det) : List Value := [.int .i64 d.team, .int .i64 d.target, .int .i64 d.sensor, .int .i64 d.grade]
theorem Det.len (d : Det) : d.vals.length = 4 := rfl
def soundP (d : Det) : Bool := decide (0 ≤ d.target ∧ d.target < 112 ∧ 1 ≤ d.grade ∧ d.grade ≤ 3)
/-- tracks.sound -/
theorem sound_any (w : World) (d : Det) : Calls Try.prog 75 #[.agg #[.int .i64 d.team, .int .i64 d.target, .int .i64 d.sensor, .int .i64 d.grade]] w fun e w' => e = .returned (.bool (soundP d)) ∧ Below w.heap.size w w' := by
  by_cases h1 : 0 ≤ d.target
  · by_cases h2 : d.target < 112
    · by_cases h3 : 1 ≤ d.grade
      · by_cases h4 : d.grade ≤ 3
        · go_enter Try.func75, Try.ntmps75
          go_wp2
          go_ret
          exact ⟨ret_bool (by unfold soundP; symm; rw [decide_eq_true_eq]; omega), be1 _ _⟩
        · go_enter Try.func75, Try.ntmps75
          go_wp2
          go_ret
          exact ⟨ret_bool (by unfold soundP; symm; rw [decide_eq_false_iff_not]; omega), be1 _ _⟩
      · go_enter Try.func75, Try.ntmps75
        go_wp2
        go_ret
        exact ⟨ret_bool (by unfold soundP; symm; rw [decide_eq_false_iff_not]; omega), be1 _ _⟩
    · go_enter Try.func75, Try.ntmps75
      go_wp2
      go_ret
      exact ⟨ret_bool (by unfold soundP; symm; rw [decide_eq_false_iff_not]; omega), be1 _ _⟩
  · go_enter Try.func75, Try.ntmps75
    go_wp2
    go_ret
    exact ⟨ret_bool (by unfold soundP; symm; rw [decide_eq_false_iff_not]; omega), be1 _ _⟩
theorem RA.sl {w : World} {b o : Nat} {s : Slt} (h : RA w b o s.vals) : w.cell? ⟨b, o, none⟩ = some (.bool s.used) ∧ w.cell? ⟨b, o + 1, none⟩ = some (.int .i64 s.tg) ∧ w.cell? ⟨b, o + 2, none⟩ = some (.int .i64 s.sk) ∧ w.cell? ⟨b, o + 3, none⟩ = some (.int .i64 s.tr.num) ∧ w.cell? ⟨b, o + 4, none⟩ = some (.int .i64 s.tr.x) ∧ w.cell? ⟨b, o + 5, none⟩ = some (.int .i64 s.tr.y) ∧ w.cell? ⟨b, o + 6, none⟩ = some (.int .i64 s.tr.co) ∧ w.cell? ⟨b, o + 7, none⟩ = some (.int .i64 s.tr.sp) ∧ w.cell? ⟨b, o + 8, none⟩ = some (.int .i64 s.tr.st) ∧ w.cell? ⟨b, o + 9, none⟩ = some (.int .i64 s.tr.ag) :=
  ⟨h.c 0 _ rfl, h.c 1 _ rfl, h.c 2 _ rfl, h.c 3 _ rfl, h.c 4 _ rfl, h.c 5 _ rfl, h.c 6 _ rfl, h.c 7 _ rfl, h.c 8 _ rfl, h.c 9 _ rfl⟩
/-- What becomes of a slot's cells. -/
def SP (w : World) (b o : Nat) (s : Slt) (e : Ending) (w' : World) : Prop := e = .returned (.tuple #[]) ∧ RA w' b o s.vals ∧ Fr b o 10 w w'
/-- tracks.credit -/
theorem credit_any (w : World) (b o : Nat) (s : Slt) (h : RA w b o s.vals) (hs : SltOk s) (g : Int) : Calls Try.prog 76 #[.pointer (some ⟨b, o, none⟩), .int .i64 g] w (SP w b o (creditP s g)) := by
  obtain ⟨c0, c1, c2, c3, c4, c5, c6, c7, c8, c9⟩ := h.sl
  have f2 := h.f (o + 2)
  have f8 := h.f (o + 8)
  have t0 := hs.tr.st.1
  have t1 := hs.tr.st.2
  have k0 := hs.sk.1
  have k1 := hs.sk.2
  have HR := hide h
  obtain ⟨st, hst⟩ : ∃ st, s.tr.st = st := ⟨_, rfl⟩
  obtain ⟨sk, hsk⟩ : ∃ sk, s.sk = sk := ⟨_, rfl⟩
  have HST := hide hst
  have HSK := hide hsk
  rw [hst] at c8 t0 t1 k1
  rw [hsk] at c2 k0 k1
  clear hst hsk hs h
  by_cases h3 : st = 3
  · have HC := hide (show creditP s g = s by unfold creditP; rw [if_pos (by rw [HST.out]; exact h3)])
    have e3 : (st == 3) = true := by simp [h3]
    clear h3
    go_enter Try.func76, Try.ntmps76
    go_wp2
    exact bodyPost_ret (v := .tuple #[]) (by simp [results, Try.results76, go_sem]) rfl ⟨rfl, by rw [HC.out]; exact HR.out, Fr.refl _ _ _ _⟩
  · have e3 : (st == 3) = false := by simp [h3]
    by_cases hg : g < st + 1
    · have HC := hide (show creditP s g = { s with sk := 0 } by unfold creditP; rw [if_neg (by rw [HST.out]; exact h3), if_pos (by rw [HST.out]; exact hg)])
      have HP := hide (HR.out.put (k := 2) (.int .i64 0) (by rw [Slt.len]; omega))
      clear h3
      go_enter Try.func76, Try.ntmps76
      go_wp2
      exact bodyPost_ret (v := .tuple #[]) (by simp [results, Try.results76, go_sem]) rfl ⟨rfl, by rw [HC.out]; exact HP.out, (Fr.refl _ _ _ _).set (by omega) (by omega) _⟩
    · by_cases hk : sk + 1 = st + 2
      · have HC := hide (show creditP s g = { s with sk := 0, tr := { s.tr with st := s.tr.st + 1 } } by unfold creditP; rw [if_neg (by rw [HST.out]; exact h3), if_neg (by rw [HST.out]; exact hg), if_pos (by rw [HST.out, HSK.out]; exact hk)])
        have HP := hide (((HR.out.put (k := 2) (.int .i64 (sk + 1)) (by rw [Slt.len]; omega)).put (k := 8) (.int .i64 (st + 1)) (by rw [List.length_set, Slt.len]; omega)).put (k := 2) (.int .i64 0) (by rw [List.length_set, List.length_set, Slt.len]; omega))
        have ek : (sk + 1 == st + 2) = true := by simp [hk]
        clear h3 hk
        go_enter Try.func76, Try.ntmps76
        go_wp2
        refine bodyPost_ret (v := .tuple #[]) (by simp [results, Try.results76, go_sem]) rfl ⟨rfl, ?_, (((Fr.refl _ _ _ _).set (by omega) (by omega) _).set (by omega) (by omega) _).set (by omega) (by omega) _⟩
        rw [HC.out, HST.out]
        exact HP.out
      · have HC := hide (show creditP s g = { s with sk := s.sk + 1 } by unfold creditP; rw [if_neg (by rw [HST.out]; exact h3), if_neg (by rw [HST.out]; exact hg), if_neg (by rw [HST.out, HSK.out]; exact hk)])
        have HP := hide (HR.out.put (k := 2) (.int .i64 (sk + 1)) (by rw [Slt.len]; omega))
        have ek : (sk + 1 == st + 2) = false := by simp [hk]
        clear h3 hk
        go_enter Try.func76, Try.ntmps76
        go_wp2
        refine bodyPost_ret (v := .tuple #[]) (by simp [results, Try.results76, go_sem]) rfl ⟨rfl, ?_, (Fr.refl _ _ _ _).set (by omega) (by omega) _⟩
        rw [HC.out, HSK.out]
        exact HP.out
/-- A track's cells. -/
theorem RA.tk {w : World} {b o : Nat} {s : Trk} (h : RA w b o s.vals) : w.cell? ⟨b, o, none⟩ = some (.int .i64 s.num) ∧ w.cell? ⟨b, o + 1, none⟩ = some (.int .i64 s.x) ∧ w.cell? ⟨b, o + 2, none⟩ = some (.int .i64 s.y) ∧ w.cell? ⟨b, o + 3, none⟩ = some (.int .i64 s.co) ∧ w.cell? ⟨b, o + 4, none⟩ = some (.int .i64 s.sp) ∧ w.cell? ⟨b, o + 5, none⟩ = some (.int .i64 s.st) ∧ w.cell? ⟨b, o + 6, none⟩ = some (.int .i64 s.ag) :=
  ⟨h.c 0 _ rfl, h.c 1 _ rfl, h.c 2 _ rfl, h.c 3 _ rfl, h.c 4 _ rfl, h.c 5 _ rfl, h.c 6 _ rfl⟩
def TP (w : World) (b o : Nat) (s : Trk) (e : Ending) (w' : World) : Prop := e = .returned (.tuple #[]) ∧ RA w' b o s.vals ∧ Fr b o 7 w w'
theorem look_eq (t : Trk) (W : Tgt) (g : Int) : (((t.vals.set 1 (.int .i64 (qzP W.x (pgP g)))).set 2 (.int .i64 (qzP W.y (pgP g)))).set 3 (.int .i64 (qzP W.co (cgP g)))).set 4 (.int .i64 (qzP W.sp (sgP g))) = (lookP t W g).vals := rfl
theorem grain_rng (g : Int) : (0 < pgP g ∧ pgP g ≤ 1000000) ∧ (0 < cgP g ∧ cgP g ≤ 1000000) ∧ (0 < sgP g ∧ sgP g ≤ 1000000) := by
  rcases pg_cases g with ⟨e1, e2, e3⟩ | ⟨e1, e2, e3⟩ | ⟨e1, e2, e3⟩ <;> rw [e1, e2, e3] <;> omega
set_option maxHeartbeats 2000000 in
/-- tracks.look -/
theorem look_any (w : World) (b o : Nat) (t : Trk) (h : RA w b o t.vals) (W : Tgt) (hW : TgtOk W) (g : Int) :
    Calls Try.prog 61 #[.pointer (some ⟨b, o, none⟩), .agg #[.int .i64 W.x, .int .i64 W.y, .int .i64 W.co, .int .i64 W.sp], .int .i64 g] w (TP w b o (lookP t W g)) := by
  have hl := h.lt (by simp [Trk.vals])
  have hR := h.below hl (be1 w (.cells #[.int .i64 W.x, .int .i64 W.y, .int .i64 W.co, .int .i64 W.sp] 60))
  have HL := hide (look_eq t W g)
  obtain ⟨⟨p0, p1⟩, ⟨c0, c1⟩, ⟨s0, s1⟩⟩ := grain_rng g
  have qx := fun w => hide (quant_any w W.x (pgP g) p0 p1 (by have := hW.x; omega) (by have := hW.x; omega))
  have qy := fun w => hide (quant_any w W.y (pgP g) p0 p1 (by have := hW.y; omega) (by have := hW.y; omega))
  have qc := fun w => hide (quant_any w W.co (cgP g) c0 c1 (by have := hW.co; omega) (by have := hW.co; omega))
  have qs := fun w => hide (quant_any w W.sp (sgP g) s0 s1 (by have := hW.sp; omega) (by have := hW.sp; omega))
  have gr := fun w => hide (grains_any w g)
  obtain ⟨qxv, hqx⟩ : ∃ q, qzP W.x (pgP g) = q := ⟨_, rfl⟩
  obtain ⟨qyv, hqy⟩ : ∃ q, qzP W.y (pgP g) = q := ⟨_, rfl⟩
  obtain ⟨qcv, hqc⟩ : ∃ q, qzP W.co (cgP g) = q := ⟨_, rfl⟩
  obtain ⟨qsv, hqs⟩ : ∃ q, qzP W.sp (sgP g) = q := ⟨_, rfl⟩
  rw [hqx] at qx HL
  rw [hqy] at qy HL
  rw [hqc] at qc HL
  rw [hqs] at qs HL
  obtain ⟨pg, hpg⟩ : ∃ p, pgP g = p := ⟨_, rfl⟩
  obtain ⟨cg, hcg⟩ : ∃ p, cgP g = p := ⟨_, rfl⟩
  obtain ⟨sg, hsg⟩ : ∃ p, sgP g = p := ⟨_, rfl⟩
  rw [hpg] at qx qy gr
  rw [hcg] at qc gr
  rw [hsg] at qs gr
  clear hqx hqy hqc hqs hpg hcg hsg p0 p1 c0 c1 s0 s1 hW
  have hF : Fr b o 7 w (w.alloc (.cells #[.int .i64 W.x, .int .i64 W.y, .int .i64 W.co, .int .i64 W.sp] 60)) := (Fr.refl _ _ _ _).alloc hl _
  have hne : b ≠ w.heap.size := by omega
  have d0 : (w.alloc (.cells #[.int .i64 W.x, .int .i64 W.y, .int .i64 W.co, .int .i64 W.sp] 60)).cell? ⟨w.heap.size, 0, none⟩ = some (.int .i64 W.x) := by simp [go_sem]
  have d1 : (w.alloc (.cells #[.int .i64 W.x, .int .i64 W.y, .int .i64 W.co, .int .i64 W.sp] 60)).cell? ⟨w.heap.size, 1, none⟩ = some (.int .i64 W.y) := by simp [go_sem]
  have d2 : (w.alloc (.cells #[.int .i64 W.x, .int .i64 W.y, .int .i64 W.co, .int .i64 W.sp] 60)).cell? ⟨w.heap.size, 2, none⟩ = some (.int .i64 W.co) := by simp [go_sem]
  have d3 : (w.alloc (.cells #[.int .i64 W.x, .int .i64 W.y, .int .i64 W.co, .int .i64 W.sp] 60)).cell? ⟨w.heap.size, 3, none⟩ = some (.int .i64 W.sp) := by simp [go_sem]
  have HF := hide hF
  have HR := hide hR
  clear hF hR h hl
  go_enter Try.func61, Try.ntmps61
  go_upto_region 1 with fail
  generalize w.alloc (.cells #[.int .i64 W.x, .int .i64 W.y, .int .i64 W.co, .int .i64 W.sp] 60) = w1 at *
  obtain ⟨q, hq⟩ : ∃ q, w.heap.size = q := ⟨_, rfl⟩
  rw [hq] at hne d0 d1 d2 d3 ⊢
  clear hq
  obtain ⟨x0, x1, x2, x3, x4, x5, x6⟩ := HR.out.tk
  have f1 := HR.out.f (o + 1)
  have f2 := HR.out.f (o + 2)
  have f3 := HR.out.f (o + 3)
  have f4 := HR.out.f (o + 4)
  go_wp2_with fail
  refine (gr _).out.mono ?_
  rintro e w' ⟨rfl, ew⟩
  rw [ew]
  clear ew w'
  go_wp2_with fail
  refine (qx _).out.mono ?_
  rintro e w' ⟨rfl, ew⟩
  rw [ew]
  clear ew w'
  go_wp2_with fail
  refine (qy _).out.mono ?_
  rintro e w' ⟨rfl, ew⟩
  rw [ew]
  clear ew w'
  go_wp2_with fail
  refine (qc _).out.mono ?_
  rintro e w' ⟨rfl, ew⟩
  rw [ew]
  clear ew w'
  go_wp2_with fail
  refine (qs _).out.mono ?_
  rintro e w' ⟨rfl, ew⟩
  rw [ew]
  clear ew w'
  go_wp2
  refine bodyPost_ret (v := .tuple #[]) (by simp [results, Try.results61, go_sem]) rfl ⟨rfl, ?_, (((HF.out.set (by omega) (by omega) _).set (by omega) (by omega) _).set (by omega) (by omega) _).set (by omega) (by omega) _⟩
  rw [← HL.out]
  exact (((HR.out.put (k := 1) _ (by simp [Trk.vals])).put (k := 2) _ (by simp [Trk.vals])).put (k := 3) _ (by simp [Trk.vals])).put (k := 4) _ (by simp [Trk.vals])
end Go.Proofs.Qxb6500777a
