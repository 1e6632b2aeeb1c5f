import Derived.Test.Qxb6500778aM1
namespace Go.Proofs.Qxb6500778a
open Go.RowKit

theorem strL_ext (s : ByteArray) (i j : Nat) : strL (s.extract i j) = ((strL s).drop i).take (j - i) := by
  unfold strL
  rw [ByteArray.data_extract, Array.toList_extract, List.extract_eq_take_drop, ← List.map_drop, ← List.map_take]
theorem wrE_ne (l : List Int) : wrE l ≠ 0 := by
  unfold wrE
  split
  · repeat' split
    all_goals decide
  · decide
/-- upTo, plain: with the lead r or without -/
def uRest (r : Bool) (l : List Int) : List Int := if r = true then l.drop 1 else l
def uOk (r : Bool) (l : List Int) : Bool := (!r || (l.head? == some 114)) && dgB (uRest r l)
def uE (r : Bool) (l : List Int) (m : Int) : Int := if uOk r l = true then (if m < dgV (uRest r l) then 3 else 0) else wrE l
def uV (r : Bool) (l : List Int) (m : Int) : Int := if uOk r l = true then (if m < dgV (uRest r l) then 0 else dgV (uRest r l)) else 0
def fltV (e q : Int) : Value := .agg #[.int .i64 e, .int .i64 (if e = 0 then 0 else q)]
theorem fltV_ok (q : Int) : fltV 0 q = .agg #[.int .i64 0, .int .i64 0] := rfl
theorem fltV_bad {e : Int} (q : Int) (h : e ≠ 0) : fltV e q = .agg #[.int .i64 e, .int .i64 q] := by unfold fltV; rw [if_neg h]
set_option linter.unusedSimpArgs false in
set_option maxRecDepth 100000 in
set_option maxHeartbeats 4000000 in
/-- configm.upTo -/
theorem upTo_0 (w : World) (s : ByteArray) (l : List Int) (q m : Int) (hs : strL s = l) (hl : l.length ≤ 1000000) : Calls Try.prog 43 #[.agg #[.string s, .int .i64 q], .string ⟨#[]⟩, .int .i64 m] w fun e w' => e = .returned (.tuple #[.int .i64 (uV false l m), fltV (uE false l m) q]) ∧ Ex (fun _ => False) w w' := by
  obtain ⟨h1, h2, h3, h4⟩ := two_new w [.string s, .int .i64 q] [.int .i64 0, .int .i64 0] 107 109
  have c0 := h1 0 _ rfl
  have c1 := h1 1 _ rfl
  have d0 := h2 0 _ rfl
  have d1 := h2 1 _ rfl
  have HE := hide h4
  clear h1 h2 h4
  obtain ⟨n, hn⟩ : ∃ n, l.length = n := ⟨_, rfl⟩
  have hsz : s.size = n := by rw [strL_len, hs, hn]
  have HWR := hide (fun V => wrong_any V s l q hs hl)
  have hwn := wrE_ne l
  have hh : True := trivial
  have hx : (s.extract 0 0).toList.isEmpty = true := by
    rw [str_emp, strL_ext, Nat.sub_self, List.take_zero]
    rfl
  have HNU := hide (fun V => number_any V (s.extract 0 n) (uRest false l) (by rw [strL_ext, hs]; unfold uRest; rw [if_neg (by decide), List.drop_zero]; exact List.take_of_length_le (by rw [hn]; exact Nat.le_refl _)) (by unfold uRest; rw [if_neg (by decide)]; exact hl))
  obtain ⟨bd, hbd⟩ : ∃ b, dgB (uRest false l) = b := ⟨_, rfl⟩
  obtain ⟨vd, hvd⟩ : ∃ b, dgV (uRest false l) = b := ⟨_, rfl⟩
  rw [hbd, hvd] at HNU
  have HUE : Hid (uE false l m = if bd = true then (if m < vd then 3 else 0) else wrE l) := by show uE false l m = _; unfold uE uOk; rw [hbd, hvd]; simp [hh]
  have HUV : Hid (uV false l m = if bd = true then (if m < vd then 0 else vd) else 0) := by show uV false l m = _; unfold uV uOk; rw [hbd, hvd]; simp [hh]
  clear hbd hvd
  obtain ⟨we, hwe⟩ : ∃ e, wrE l = e := ⟨_, rfl⟩
  rw [hwe] at HWR HUE hwn
  rw [HUE.out, HUV.out]
  cases bd
  · rw [if_neg (by decide), if_neg (by decide), fltV_bad q hwn]
    clear hwe hs hn HUE HUV
    go_enter Try.func43, Try.ntmps43
    go_upto_region 1 with fail
    obtain ⟨W, hW⟩ : ∃ W, W = (w.alloc (.cells #[.string s, .int .i64 q] 107)).alloc (.cells #[.int .i64 0, .int .i64 0] 109) := ⟨_, rfl⟩
    rw [← hW] at HE c0 c1 d0 d1 h3 ⊢
    have hr : w.heap.size + 1 ≠ w.heap.size := by omega
    obtain ⟨r1, hr1⟩ : ∃ r, w.heap.size + 1 = r := ⟨_, rfl⟩
    rw [hr1] at d0 d1 h3 hr ⊢
    have hrw : w.heap.size ≤ r1 := by omega
    obtain ⟨r0, hr0⟩ : ∃ r, w.heap.size = r := ⟨_, rfl⟩
    rw [hr0] at c0 c1 hr ⊢
    have hrl : r1 < W.heap.size := World.block_lt_of_cell? _ _ d0
    clear hW hr0 hr1
    go_wp2_with fail
    refine (HNU.out _).mono ?_
    rintro e wq ⟨rfl, rfl⟩
    go_wp2_with fail
    refine (HWR.out _).mono ?_
    rintro e w2 ⟨rfl, hex2⟩
    have y0 := hex2.cell (fun e => e) d0
    have y1 := hex2.cell (fun e => e) d1
    have yf := fun j => (hex2.frozen (q := r1) (j := j) (fun e => e) hrl).trans (h3 j)
    have HF : Hid (Ex (fun _ => False) w ((w2.setCell ⟨r1, 0, none⟩ (.int .i64 we)).setCell ⟨r1, 1, none⟩ (.int .i64 q))) := ((HE.out.trans hex2).setNew hrw _).setNew hrw _
    clear hex2 c0 c1 d0 d1 h3
    go_wp2
    refine bodyPost_ret (v := .tuple #[.int .i64 0, .agg #[.int .i64 we, .int .i64 q]]) (by simp [results, Try.results43, go_sem, y0, y1]) rfl ⟨rfl, HF.out⟩
  · rw [if_pos rfl, if_pos rfl]
    by_cases hm : m < vd
    · have dm : decide (m < vd) = true := decide_eq_true hm
      rw [if_pos hm, if_pos hm, fltV_bad q (by decide)]
      clear hwe hs hn HUE HUV
      go_enter Try.func43, Try.ntmps43
      go_upto_region 1 with fail
      obtain ⟨W, hW⟩ : ∃ W, W = (w.alloc (.cells #[.string s, .int .i64 q] 107)).alloc (.cells #[.int .i64 0, .int .i64 0] 109) := ⟨_, rfl⟩
      rw [← hW] at HE c0 c1 d0 d1 h3 ⊢
      have hr : w.heap.size + 1 ≠ w.heap.size := by omega
      obtain ⟨r1, hr1⟩ : ∃ r, w.heap.size + 1 = r := ⟨_, rfl⟩
      rw [hr1] at d0 d1 h3 hr ⊢
      have hrw : w.heap.size ≤ r1 := by omega
      obtain ⟨r0, hr0⟩ : ∃ r, w.heap.size = r := ⟨_, rfl⟩
      rw [hr0] at c0 c1 hr ⊢
      have hrl : r1 < W.heap.size := World.block_lt_of_cell? _ _ d0
      clear hW hr0 hr1
      go_wp2_with fail
      refine (HNU.out _).mono ?_
      rintro e wq ⟨rfl, rfl⟩
      have HF : Hid (Ex (fun _ => False) w ((W.setCell ⟨r1, 0, none⟩ (.int .i64 3)).setCell ⟨r1, 1, none⟩ (.int .i64 q)).drew) := ((HE.out.setNew hrw _).setNew hrw _).drew
      go_upto_region 7 with fail
      go_region
      go_wp2
      refine bodyPost_ret (v := .tuple #[.int .i64 0, .agg #[.int .i64 3, .int .i64 q]]) (by simp [results, Try.results43, go_sem, d0, d1]) rfl ⟨rfl, HF.out⟩
    · have dm : decide (m < vd) = false := decide_eq_false hm
      rw [if_neg hm, if_neg hm, fltV_ok q]
      clear hwe hs hn HUE HUV
      go_enter Try.func43, Try.ntmps43
      go_upto_region 1 with fail
      obtain ⟨W, hW⟩ : ∃ W, W = (w.alloc (.cells #[.string s, .int .i64 q] 107)).alloc (.cells #[.int .i64 0, .int .i64 0] 109) := ⟨_, rfl⟩
      rw [← hW] at HE c0 c1 d0 d1 h3 ⊢
      have hr : w.heap.size + 1 ≠ w.heap.size := by omega
      obtain ⟨r1, hr1⟩ : ∃ r, w.heap.size + 1 = r := ⟨_, rfl⟩
      rw [hr1] at d0 d1 h3 hr ⊢
      have hrw : w.heap.size ≤ r1 := by omega
      obtain ⟨r0, hr0⟩ : ∃ r, w.heap.size = r := ⟨_, rfl⟩
      rw [hr0] at c0 c1 hr ⊢
      have hrl : r1 < W.heap.size := World.block_lt_of_cell? _ _ d0
      clear hW hr0 hr1
      go_wp2_with fail
      refine (HNU.out _).mono ?_
      rintro e wq ⟨rfl, rfl⟩
      have HF : Hid (Ex (fun _ => False) w ((W.setCell ⟨r1, 0, none⟩ (.int .i64 0)).setCell ⟨r1, 1, none⟩ (.int .i64 0))) := (HE.out.setNew hrw _).setNew hrw _
      go_wp2
      refine bodyPost_ret (v := .tuple #[.int .i64 vd, .agg #[.int .i64 0, .int .i64 0]]) (by simp [results, Try.results43, go_sem, d0, d1]) rfl ⟨rfl, HF.out⟩
set_option linter.unusedSimpArgs false in
set_option maxRecDepth 100000 in
set_option maxHeartbeats 4000000 in
/-- configm.upTo -/
theorem upTo_r (w : World) (s : ByteArray) (l : List Int) (q m : Int) (hs : strL s = l) (hl : l.length ≤ 1000000) : Calls Try.prog 43 #[.agg #[.string s, .int .i64 q], .string ⟨#[114]⟩, .int .i64 m] w fun e w' => e = .returned (.tuple #[.int .i64 (uV true l m), fltV (uE true l m) q]) ∧ Ex (fun _ => False) w w' := by
  obtain ⟨h1, h2, h3, h4⟩ := two_new w [.string s, .int .i64 q] [.int .i64 0, .int .i64 0] 107 109
  have c0 := h1 0 _ rfl
  have c1 := h1 1 _ rfl
  have d0 := h2 0 _ rfl
  have d1 := h2 1 _ rfl
  have HE := hide h4
  clear h1 h2 h4
  obtain ⟨n, hn⟩ : ∃ n, l.length = n := ⟨_, rfl⟩
  have hsz : s.size = n := by rw [strL_len, hs, hn]
  have HWR := hide (fun V => wrong_any V s l q hs hl)
  have hwn := wrE_ne l
  by_cases hh : l.head? = some 114
  · have hl1 : 1 ≤ n := by
      cases l with
      | nil => cases hh
      | cons => rw [← hn, List.length_cons]; omega
    have hli : decide ((n : Int) < 1) = false := decide_eq_false (by omega)
    have hx : ((s.extract 0 1).toList == [114]) = true := by
      rw [str_eq, strL_ext, hs, List.drop_zero]
      cases l with
      | nil => cases hh
      | cons c r => simp only [List.head?_cons, Option.some.injEq] at hh; subst hh; rfl
    have HNU := hide (fun V => number_any V (s.extract 1 n) (uRest true l) (by rw [strL_ext, hs]; unfold uRest; rw [if_pos rfl]; exact List.take_of_length_le (by rw [List.length_drop, hn]; exact Nat.le_refl _)) (by unfold uRest; rw [if_pos rfl, List.length_drop]; omega))
    obtain ⟨bd, hbd⟩ : ∃ b, dgB (uRest true l) = b := ⟨_, rfl⟩
    obtain ⟨vd, hvd⟩ : ∃ b, dgV (uRest true l) = b := ⟨_, rfl⟩
    rw [hbd, hvd] at HNU
    have HUE : Hid (uE true l m = if bd = true then (if m < vd then 3 else 0) else wrE l) := by show uE true l m = _; unfold uE uOk; rw [hbd, hvd]; simp [hh]
    have HUV : Hid (uV true l m = if bd = true then (if m < vd then 0 else vd) else 0) := by show uV true l m = _; unfold uV uOk; rw [hbd, hvd]; simp [hh]
    clear hbd hvd
    obtain ⟨we, hwe⟩ : ∃ e, wrE l = e := ⟨_, rfl⟩
    rw [hwe] at HWR HUE hwn
    rw [HUE.out, HUV.out]
    cases bd
    · rw [if_neg (by decide), if_neg (by decide), fltV_bad q hwn]
      clear hwe hs hn HUE HUV
      go_enter Try.func43, Try.ntmps43
      go_upto_region 1 with fail
      obtain ⟨W, hW⟩ : ∃ W, W = (w.alloc (.cells #[.string s, .int .i64 q] 107)).alloc (.cells #[.int .i64 0, .int .i64 0] 109) := ⟨_, rfl⟩
      rw [← hW] at HE c0 c1 d0 d1 h3 ⊢
      have hr : w.heap.size + 1 ≠ w.heap.size := by omega
      obtain ⟨r1, hr1⟩ : ∃ r, w.heap.size + 1 = r := ⟨_, rfl⟩
      rw [hr1] at d0 d1 h3 hr ⊢
      have hrw : w.heap.size ≤ r1 := by omega
      obtain ⟨r0, hr0⟩ : ∃ r, w.heap.size = r := ⟨_, rfl⟩
      rw [hr0] at c0 c1 hr ⊢
      have hrl : r1 < W.heap.size := World.block_lt_of_cell? _ _ d0
      clear hW hr0 hr1
      go_wp2_with fail
      refine (HNU.out _).mono ?_
      rintro e wq ⟨rfl, rfl⟩
      go_wp2_with fail
      refine (HWR.out _).mono ?_
      rintro e w2 ⟨rfl, hex2⟩
      have y0 := hex2.cell (fun e => e) d0
      have y1 := hex2.cell (fun e => e) d1
      have yf := fun j => (hex2.frozen (q := r1) (j := j) (fun e => e) hrl).trans (h3 j)
      have HF : Hid (Ex (fun _ => False) w ((w2.setCell ⟨r1, 0, none⟩ (.int .i64 we)).setCell ⟨r1, 1, none⟩ (.int .i64 q))) := ((HE.out.trans hex2).setNew hrw _).setNew hrw _
      clear hex2 c0 c1 d0 d1 h3
      go_wp2
      refine bodyPost_ret (v := .tuple #[.int .i64 0, .agg #[.int .i64 we, .int .i64 q]]) (by simp [results, Try.results43, go_sem, y0, y1]) rfl ⟨rfl, HF.out⟩
    · rw [if_pos rfl, if_pos rfl]
      by_cases hm : m < vd
      · have dm : decide (m < vd) = true := decide_eq_true hm
        rw [if_pos hm, if_pos hm, fltV_bad q (by decide)]
        clear hwe hs hn HUE HUV
        go_enter Try.func43, Try.ntmps43
        go_upto_region 1 with fail
        obtain ⟨W, hW⟩ : ∃ W, W = (w.alloc (.cells #[.string s, .int .i64 q] 107)).alloc (.cells #[.int .i64 0, .int .i64 0] 109) := ⟨_, rfl⟩
        rw [← hW] at HE c0 c1 d0 d1 h3 ⊢
        have hr : w.heap.size + 1 ≠ w.heap.size := by omega
        obtain ⟨r1, hr1⟩ : ∃ r, w.heap.size + 1 = r := ⟨_, rfl⟩
        rw [hr1] at d0 d1 h3 hr ⊢
        have hrw : w.heap.size ≤ r1 := by omega
        obtain ⟨r0, hr0⟩ : ∃ r, w.heap.size = r := ⟨_, rfl⟩
        rw [hr0] at c0 c1 hr ⊢
        have hrl : r1 < W.heap.size := World.block_lt_of_cell? _ _ d0
        clear hW hr0 hr1
        go_wp2_with fail
        refine (HNU.out _).mono ?_
        rintro e wq ⟨rfl, rfl⟩
        have HF : Hid (Ex (fun _ => False) w ((W.setCell ⟨r1, 0, none⟩ (.int .i64 3)).setCell ⟨r1, 1, none⟩ (.int .i64 q)).drew) := ((HE.out.setNew hrw _).setNew hrw _).drew
        go_upto_region 7 with fail
        go_region
        go_wp2
        refine bodyPost_ret (v := .tuple #[.int .i64 0, .agg #[.int .i64 3, .int .i64 q]]) (by simp [results, Try.results43, go_sem, d0, d1]) rfl ⟨rfl, HF.out⟩
      · have dm : decide (m < vd) = false := decide_eq_false hm
        rw [if_neg hm, if_neg hm, fltV_ok q]
        clear hwe hs hn HUE HUV
        go_enter Try.func43, Try.ntmps43
        go_upto_region 1 with fail
        obtain ⟨W, hW⟩ : ∃ W, W = (w.alloc (.cells #[.string s, .int .i64 q] 107)).alloc (.cells #[.int .i64 0, .int .i64 0] 109) := ⟨_, rfl⟩
        rw [← hW] at HE c0 c1 d0 d1 h3 ⊢
        have hr : w.heap.size + 1 ≠ w.heap.size := by omega
        obtain ⟨r1, hr1⟩ : ∃ r, w.heap.size + 1 = r := ⟨_, rfl⟩
        rw [hr1] at d0 d1 h3 hr ⊢
        have hrw : w.heap.size ≤ r1 := by omega
        obtain ⟨r0, hr0⟩ : ∃ r, w.heap.size = r := ⟨_, rfl⟩
        rw [hr0] at c0 c1 hr ⊢
        have hrl : r1 < W.heap.size := World.block_lt_of_cell? _ _ d0
        clear hW hr0 hr1
        go_wp2_with fail
        refine (HNU.out _).mono ?_
        rintro e wq ⟨rfl, rfl⟩
        have HF : Hid (Ex (fun _ => False) w ((W.setCell ⟨r1, 0, none⟩ (.int .i64 0)).setCell ⟨r1, 1, none⟩ (.int .i64 0))) := (HE.out.setNew hrw _).setNew hrw _
        go_wp2
        refine bodyPost_ret (v := .tuple #[.int .i64 vd, .agg #[.int .i64 0, .int .i64 0]]) (by simp [results, Try.results43, go_sem, d0, d1]) rfl ⟨rfl, HF.out⟩
  · have hu : uE true l m = wrE l := by unfold uE uOk; simp [hh]
    have hv : uV true l m = 0 := by unfold uV uOk; simp [hh]
    obtain ⟨we, hwe⟩ : ∃ e, wrE l = e := ⟨_, rfl⟩
    rw [hu, hv, hwe]
    rw [hwe] at HWR hwn
    rw [fltV_bad q hwn]
    by_cases hl1 : n = 0
    · subst hl1
      clear hwe hu hv hs hn
      go_enter Try.func43, Try.ntmps43
      go_upto_region 1 with fail
      obtain ⟨W, hW⟩ : ∃ W, W = (w.alloc (.cells #[.string s, .int .i64 q] 107)).alloc (.cells #[.int .i64 0, .int .i64 0] 109) := ⟨_, rfl⟩
      rw [← hW] at HE c0 c1 d0 d1 h3 ⊢
      have hr : w.heap.size + 1 ≠ w.heap.size := by omega
      obtain ⟨r1, hr1⟩ : ∃ r, w.heap.size + 1 = r := ⟨_, rfl⟩
      rw [hr1] at d0 d1 h3 hr ⊢
      have hrw : w.heap.size ≤ r1 := by omega
      obtain ⟨r0, hr0⟩ : ∃ r, w.heap.size = r := ⟨_, rfl⟩
      rw [hr0] at c0 c1 hr ⊢
      have hrl : r1 < W.heap.size := World.block_lt_of_cell? _ _ d0
      clear hW hr0 hr1
      go_wp2_with fail
      refine (HWR.out _).mono ?_
      rintro e w2 ⟨rfl, hex2⟩
      have y0 := hex2.cell (fun e => e) d0
      have y1 := hex2.cell (fun e => e) d1
      have yf := fun j => (hex2.frozen (q := r1) (j := j) (fun e => e) hrl).trans (h3 j)
      have HF : Hid (Ex (fun _ => False) w ((w2.setCell ⟨r1, 0, none⟩ (.int .i64 we)).setCell ⟨r1, 1, none⟩ (.int .i64 q))) := ((HE.out.trans hex2).setNew hrw _).setNew hrw _
      clear hex2 c0 c1 d0 d1 h3
      go_wp2
      refine bodyPost_ret (v := .tuple #[.int .i64 0, .agg #[.int .i64 we, .int .i64 q]]) (by simp [results, Try.results43, go_sem, y0, y1]) rfl ⟨rfl, HF.out⟩
    · have hli : decide ((n : Int) < 1) = false := decide_eq_false (by omega)
      have hl2 : 1 ≤ n := by omega
      have hx : ((s.extract 0 1).toList == [114]) = false := by
        rw [str_eq, strL_ext, hs, List.drop_zero]
        cases l with
        | nil => rfl
        | cons c r =>
          simp only [List.head?_cons, Option.some.injEq] at hh
          show ([c] == [114]) = false
          rw [beq_one]
          simpa using hh
      clear hwe hu hv hs hn
      go_enter Try.func43, Try.ntmps43
      go_upto_region 1 with fail
      obtain ⟨W, hW⟩ : ∃ W, W = (w.alloc (.cells #[.string s, .int .i64 q] 107)).alloc (.cells #[.int .i64 0, .int .i64 0] 109) := ⟨_, rfl⟩
      rw [← hW] at HE c0 c1 d0 d1 h3 ⊢
      have hr : w.heap.size + 1 ≠ w.heap.size := by omega
      obtain ⟨r1, hr1⟩ : ∃ r, w.heap.size + 1 = r := ⟨_, rfl⟩
      rw [hr1] at d0 d1 h3 hr ⊢
      have hrw : w.heap.size ≤ r1 := by omega
      obtain ⟨r0, hr0⟩ : ∃ r, w.heap.size = r := ⟨_, rfl⟩
      rw [hr0] at c0 c1 hr ⊢
      have hrl : r1 < W.heap.size := World.block_lt_of_cell? _ _ d0
      clear hW hr0 hr1
      go_wp2_with fail
      refine (HWR.out _).mono ?_
      rintro e w2 ⟨rfl, hex2⟩
      have y0 := hex2.cell (fun e => e) d0
      have y1 := hex2.cell (fun e => e) d1
      have yf := fun j => (hex2.frozen (q := r1) (j := j) (fun e => e) hrl).trans (h3 j)
      have HF : Hid (Ex (fun _ => False) w ((w2.setCell ⟨r1, 0, none⟩ (.int .i64 we)).setCell ⟨r1, 1, none⟩ (.int .i64 q))) := ((HE.out.trans hex2).setNew hrw _).setNew hrw _
      clear hex2 c0 c1 d0 d1 h3
      go_wp2
      refine bodyPost_ret (v := .tuple #[.int .i64 0, .agg #[.int .i64 we, .int .i64 q]]) (by simp [results, Try.results43, go_sem, y0, y1]) rfl ⟨rfl, HF.out⟩
theorem ch_eq (s : ByteArray) (l : List Int) (hs : strL s = l) (y : ByteArray) : (s.toList == y.toList) = (l == strL y) := by
  rw [str_eq, hs, ← str_list]
set_option linter.unusedSimpArgs false in
set_option maxRecDepth 100000 in
set_option maxHeartbeats 4000000 in
/-- configm.choice -/
theorem choice_any (w : World) (s : ByteArray) (l : List Int) (q : Int) (y z : ByteArray) (hs : strL s = l) (hl : l.length ≤ 1000000) : Calls Try.prog 78 #[.agg #[.string s, .int .i64 q], .string y, .string z] w fun e w' => e = .returned (.tuple #[.bool (l == strL y), fltV (if (l == strL y) = true then 0 else if (l == strL z) = true then 0 else wrE l) q]) ∧ Ex (fun _ => False) w w' := by
  obtain ⟨h1, h2, h3, h4⟩ := two_new w [.string s, .int .i64 q] [.int .i64 0, .int .i64 0] 107 109
  have c0 := h1 0 _ rfl
  have c1 := h1 1 _ rfl
  have d0 := h2 0 _ rfl
  have d1 := h2 1 _ rfl
  have HE := hide h4
  clear h1 h2 h4
  have HWR := hide (fun V => wrong_any V s l q hs hl)
  have hwn := wrE_ne l
  have q1 := ch_eq s l hs y
  have q2 := ch_eq s l hs z
  obtain ⟨b1, hb1⟩ : ∃ b, (l == strL y) = b := ⟨_, rfl⟩
  obtain ⟨b2, hb2⟩ : ∃ b, (l == strL z) = b := ⟨_, rfl⟩
  obtain ⟨we, hwe⟩ : ∃ e, wrE l = e := ⟨_, rfl⟩
  rw [hwe] at HWR hwn ⊢
  rw [hb1] at q1 ⊢
  rw [hb2] at q2 ⊢
  clear hb1 hb2 hwe hs hl
  cases b1
  · cases b2
    · rw [if_neg (by decide), if_neg (by decide), fltV_bad q hwn]
      go_enter Try.func78, Try.ntmps78
      go_upto_region 1 with fail
      obtain ⟨W, hW⟩ : ∃ W, W = (w.alloc (.cells #[.string s, .int .i64 q] 107)).alloc (.cells #[.int .i64 0, .int .i64 0] 109) := ⟨_, rfl⟩
      rw [← hW] at HE c0 c1 d0 d1 h3 ⊢
      have hr : w.heap.size + 1 ≠ w.heap.size := by omega
      obtain ⟨r1, hr1⟩ : ∃ r, w.heap.size + 1 = r := ⟨_, rfl⟩
      rw [hr1] at d0 d1 h3 hr ⊢
      have hrw : w.heap.size ≤ r1 := by omega
      obtain ⟨r0, hr0⟩ : ∃ r, w.heap.size = r := ⟨_, rfl⟩
      rw [hr0] at c0 c1 hr ⊢
      have hrl : r1 < W.heap.size := World.block_lt_of_cell? _ _ d0
      clear hW hr0 hr1
      go_wp2_with fail
      refine (HWR.out _).mono ?_
      rintro e w2 ⟨rfl, hex2⟩
      have y0 := hex2.cell (fun e => e) d0
      have y1 := hex2.cell (fun e => e) d1
      have yf := fun j => (hex2.frozen (q := r1) (j := j) (fun e => e) hrl).trans (h3 j)
      have HF : Hid (Ex (fun _ => False) w ((w2.setCell ⟨r1, 0, none⟩ (.int .i64 we)).setCell ⟨r1, 1, none⟩ (.int .i64 q))) := ((HE.out.trans hex2).setNew hrw _).setNew hrw _
      clear hex2 c0 c1 d0 d1 h3
      go_wp2
      refine bodyPost_ret (v := .tuple #[.bool false, .agg #[.int .i64 we, .int .i64 q]]) (by simp [results, Try.results78, go_sem, y0, y1]) rfl ⟨rfl, HF.out⟩
    · rw [if_neg (by decide), if_pos rfl, fltV_ok q]
      go_enter Try.func78, Try.ntmps78
      go_upto_region 1 with fail
      obtain ⟨W, hW⟩ : ∃ W, W = (w.alloc (.cells #[.string s, .int .i64 q] 107)).alloc (.cells #[.int .i64 0, .int .i64 0] 109) := ⟨_, rfl⟩
      rw [← hW] at HE c0 c1 d0 d1 h3 ⊢
      have hr : w.heap.size + 1 ≠ w.heap.size := by omega
      obtain ⟨r1, hr1⟩ : ∃ r, w.heap.size + 1 = r := ⟨_, rfl⟩
      rw [hr1] at d0 d1 h3 hr ⊢
      have hrw : w.heap.size ≤ r1 := by omega
      obtain ⟨r0, hr0⟩ : ∃ r, w.heap.size = r := ⟨_, rfl⟩
      rw [hr0] at c0 c1 hr ⊢
      have hrl : r1 < W.heap.size := World.block_lt_of_cell? _ _ d0
      clear hW hr0 hr1
      have HF : Hid (Ex (fun _ => False) w ((W.setCell ⟨r1, 0, none⟩ (.int .i64 0)).setCell ⟨r1, 1, none⟩ (.int .i64 0))) := (HE.out.setNew hrw _).setNew hrw _
      go_wp2
      refine bodyPost_ret (v := .tuple #[.bool false, .agg #[.int .i64 0, .int .i64 0]]) (by simp [results, Try.results78, go_sem, d0, d1]) rfl ⟨rfl, HF.out⟩
  · rw [if_pos rfl, fltV_ok q]
    go_enter Try.func78, Try.ntmps78
    go_upto_region 1 with fail
    obtain ⟨W, hW⟩ : ∃ W, W = (w.alloc (.cells #[.string s, .int .i64 q] 107)).alloc (.cells #[.int .i64 0, .int .i64 0] 109) := ⟨_, rfl⟩
    rw [← hW] at HE c0 c1 d0 d1 h3 ⊢
    have hr : w.heap.size + 1 ≠ w.heap.size := by omega
    obtain ⟨r1, hr1⟩ : ∃ r, w.heap.size + 1 = r := ⟨_, rfl⟩
    rw [hr1] at d0 d1 h3 hr ⊢
    have hrw : w.heap.size ≤ r1 := by omega
    obtain ⟨r0, hr0⟩ : ∃ r, w.heap.size = r := ⟨_, rfl⟩
    rw [hr0] at c0 c1 hr ⊢
    have hrl : r1 < W.heap.size := World.block_lt_of_cell? _ _ d0
    clear hW hr0 hr1
    have HF : Hid (Ex (fun _ => False) w ((W.setCell ⟨r1, 0, none⟩ (.int .i64 0)).setCell ⟨r1, 1, none⟩ (.int .i64 0))) := (HE.out.setNew hrw _).setNew hrw _
    go_wp2
    refine bodyPost_ret (v := .tuple #[.bool true, .agg #[.int .i64 0, .int .i64 0]]) (by simp [results, Try.results78, go_sem, d0, d1]) rfl ⟨rfl, HF.out⟩
end Go.Proofs.Qxb6500778a
