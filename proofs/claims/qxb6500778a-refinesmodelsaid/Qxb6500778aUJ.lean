import Derived.Test.Qxb6500778aUI
import Derived.Test.Qxb6500778aR6
import Derived.Deep.WholeRow
namespace Go.Proofs.Qxb6500778a
open Go.RowKit

theorem results_three {P : Program} {fn : Func} {tmps : Array Value} {w : World} {a c d : Nat} {t : TypeId} {ad : Addr} {v x y : Value} (hr : fn.results = #[.cell a t, .tmp c, .tmp d]) (ha : tmps[a]?.getD undef = .pointer (some ad)) (hc : tmps[c]?.getD undef = x) (hd : tmps[d]?.getD undef = y) (hl : (loadVar t ad).run P w = .ok v w) : (results fn tmps).run P w = .ok (.tuple #[v, x, y]) w := by
  unfold results
  rw [hr]
  simp [ha, asAddr, hl, hc, hd]
/-- where the rows of a configuration lie -/
def RIn (vr va : Nat → Value) (k : Nat) : Prop := ∃ d, d < 16 ∧ ((vr d).ownBlock = some k ∨ (va d).ownBlock = some k)
def MApPost (w : World) (vr va : Nat → Value) (R : MN × Int × Int) (e : Ending) (w' : World) : Prop :=
  ∃ ur ua, e = .returned (.tuple #[.agg (mnC R.1 ur ua).toArray, .int .i64 R.2.1, .int .i64 R.2.2]) ∧ Ex (fun _ => False) w w' ∧ MV w' R.1 ur ua ∧ ∀ k, RIn ur ua k → RIn vr va k ∨ w.heap.size ≤ k
theorem mrun_drop {C : List Chg} {M M' : MN} {i : Nat} {c : Chg} (h : C[i]? = some c) (e : mrun M C 0 = mrun M' (C.drop i) i) : mrun M C 0 = if (mchg M' c).2 = 0 then mrun (mchg M' c).1 (C.drop (i + 1)) (i + 1) else (M', (mchg M' c).2, (i : Int)) := by
  rw [e]
  obtain ⟨hil, e2⟩ := List.getElem?_eq_some_iff.1 h
  rw [List.drop_eq_getElem_cons hil, e2, mrun]
theorem MW.rin {w : World} {B : Nat} {M : MN} {ur ua : Nat → Value} (h : MW w B M ur ua) {k : Nat} (hk : RIn ur ua k) : B ≤ k := by
  obtain ⟨d, hd, hk | hk⟩ := hk
  · exact h.rb d hd k hk
  · exact h.ab d hd k hk
set_option linter.unusedSimpArgs false in
set_option maxRecDepth 100000 in
set_option maxHeartbeats 8000000 in
/-- configm.Apply -/
theorem applyM_any (w : World) (M : MN) (vr va : Nat → Value) (B0 : Nat) (id : Int) (v : Value) (C : List Chg) (h : MV w M vr va) (hok : MOk M) (ho : w.ownsRow B0 45 9 v C.length (flatC C)) (hlen : C.length ≤ 1099511627776) :
    Calls Try.prog 49 #[.agg (mnC M vr va).toArray, .agg #[.int .i64 id, v]] w (MApPost w vr va (mapply M id C)) := by
  obtain ⟨sa, sc, rfl⟩ := own_len ho
  have HLN := hide (mnC_len M vr va)
  have HON := hide h.one
  have HMV := hide h
  have HOC := hide ho
  have HRG : Hid ((w.alloc (.cells (mnC M vr va).toArray 34)).rangeAt w.heap.size 0 (mnC M vr va)) := fun j u hj => by
    have := new_cells w (mnC M vr va) 34 j u hj
    rwa [Addr.add_mid] at this
  obtain ⟨cs, hcs⟩ : ∃ cs, mnC M vr va = cs := ⟨_, rfl⟩
  rw [hcs] at HLN HON HRG ⊢
  have HCS := hide hcs
  obtain ⟨n, hn⟩ : ∃ n, C.length = n := ⟨_, rfl⟩
  rw [hn] at HOC hlen ⊢
  have HNL := hide hn
  clear hcs h ho hn
  have hE0 : Ex (fun _ => False) w (((w.alloc (.cells cs.toArray 34)).alloc (.cells #[.int .i64 id, .slice sa n sc] 52)).alloc (.cells Try.zeroCells34 34)) := (((Ex.refl _ w).alloc _).alloc _).alloc _
  have hT0 : (((w.alloc (.cells cs.toArray 34)).alloc (.cells #[.int .i64 id, .slice sa n sc] 52)).alloc (.cells Try.zeroCells34 34)).there (w.heap.size + 2) 0 304 := by
    have := new_there ((w.alloc (.cells cs.toArray 34)).alloc (.cells #[.int .i64 id, .slice sa n sc] 52)) Try.zeroCells34 34 304 Try.zs34
    rwa [show ((w.alloc (.cells cs.toArray 34)).alloc (.cells #[.int .i64 id, .slice sa n sc] 52)).heap.size = w.heap.size + 2 by simp [go_sem]] at this
  have hS0 : (((w.alloc (.cells cs.toArray 34)).alloc (.cells #[.int .i64 id, .slice sa n sc] 52)).alloc (.cells Try.zeroCells34 34)).heap.size = w.heap.size + 3 := by simp [go_sem]
  have hR0 : (((w.alloc (.cells cs.toArray 34)).alloc (.cells #[.int .i64 id, .slice sa n sc] 52)).alloc (.cells Try.zeroCells34 34)).rangeAt w.heap.size 0 cs := fun j u hj => (((Ex.refl (fun _ => False) _).alloc _).alloc _).cell (fun e => e) (HRG.out j u hj)
  have hB0 : ∀ j u, [Value.int .i64 id, .slice sa n sc][j]? = some u → (((w.alloc (.cells cs.toArray 34)).alloc (.cells #[.int .i64 id, .slice sa n sc] 52)).alloc (.cells Try.zeroCells34 34)).cell? ⟨w.heap.size + 1, j, none⟩ = some u := fun j u hj => by
    have := new_cells (w.alloc (.cells cs.toArray 34)) [.int .i64 id, .slice sa n sc] 52 j u hj
    rw [Addr.add_mid, Nat.zero_add, show (w.alloc (.cells cs.toArray 34)).heap.size = w.heap.size + 1 by simp [go_sem]] at this
    exact ((Ex.refl (fun _ => False) _).alloc _).cell (fun e => e) this
  have c0 := hB0 0 _ rfl
  have c1 := hB0 1 _ rfl
  obtain ⟨r, hr⟩ : ∃ r, w.heap.size = r := ⟨_, rfl⟩
  have HR := hide hr
  obtain ⟨R, hRR⟩ : ∃ R, mapply M id C = R := ⟨_, rfl⟩
  have HMA : Hid (R = if (checkP id C).1 = 0 then (if (mrun M C 0).2.1 = 0 then mrun M C 0 else (M, (mrun M C 0).2)) else (M, checkP id C)) := by show _ = _; rw [← hRR]; rfl
  rw [hRR]
  have HCG : Hid ((checkP id C).1 = 0 → ∀ c ∈ C, GoodC c) := fun hc => (check_ok hc).2.2
  clear hB0 hRR
  go_enter Try.func49, Try.ntmps49
  go_upto_region 1 with fail
  generalize ((w.alloc (.cells cs.toArray 34)).alloc (.cells #[.int .i64 id, .slice sa n sc] 52)).alloc (.cells Try.zeroCells34 34) = W0 at *
  clear HRG
  rw [hr] at hT0 hS0 hR0 c0 c1
  have e2 : r + 1 + 1 = r + 2 := rfl
  rw [e2]
  clear hr e2
  have HE0 := hide hE0
  have HRB := hide hR0
  have HTR := hide hT0
  have HS0 : Hid (r + 3 ≤ W0.heap.size) := by show _ ≤ _; omega
  clear hE0 hR0 hT0 hS0
  have HCK := hide (checkM_any W0 B0 id (.slice sa n sc) C (by have := own_kept HOC.out HE0.out (fun _ _ e => e); rw [← HNL.out] at this ⊢; exact this) (by rw [HNL.out]; exact hlen))
  go_wp2_with fail
  refine HCK.out.mono ?_
  rintro e W1 ⟨rfl, hex1⟩
  have HE1 := hide (HE0.out.trans hex1)
  have HRB1 : Hid (W1.rangeAt r 0 cs) := fun j u hj => hex1.cell (fun e => e) (HRB.out j u hj)
  have HTR1 : Hid (W1.there (r + 2) 0 304) := there_keep (S := fun _ => False) HTR.out hex1 (fun e => e)
  have c1 := hex1.cell (fun e => e) c1
  have HS1 : Hid (r + 3 ≤ W1.heap.size) := by have := hex1.size; have := HS0.out; show _ ≤ _; omega
  have HD1 := hide c1
  clear hex1 HCK HRB HTR HE0 HS0 c0
  obtain ⟨ck, ca⟩ : ∃ a : Int × Int, checkP id C = a := ⟨_, rfl⟩
  obtain ⟨e1, a1⟩ := ck
  rw [ca] at HMA HCG
  rw [ca]
  simp only [] at HMA HCG ⊢
  clear ca
  generalize Value.agg cs.toArray = AV at *
  by_cases he : e1 = 0
  · subst he
    rw [if_pos rfl] at HMA
    have HGC := hide (HCG.out rfl)
    go_upto_region 4 with fail
    have HCP := hide (copy_any W1 M vr va (HMV.out.new HE1.out) hok)
    rw [HCS.out] at HCP
    refine wp_region_lit ?_
    refine wpL_load rfl 34 (.tmp 2) rfl r 0 rfl cs _ HRB1.out Try.underlying34 rfl (by rw [HLN.out]; exact Try.sz34) ?_
    try simp only [Act.put, List.getElem_toArray, List.getElem_cons_zero, List.getElem_cons_succ, List.setIfInBounds_toArray, List.set_cons_zero, List.set_cons_succ]
    go_wp2_with fail
    refine HCP.out.mono ?_
    rintro e W3 ⟨ur, ua, rfl, hex3, hmw⟩
    clear HCP
    have HLD := hide (mnC_len M ur ua)
    have HOD := hide hmw.mv.one
    have HMW := hide hmw
    have HEX3 := hide hex3
    obtain ⟨ds, hds⟩ : ∃ ds, mnC M ur ua = ds := ⟨_, rfl⟩
    rw [hds] at HLD HOD
    rw [hds]
    have HDS := hide hds
    have c1 := hex3.cell (fun e => e) c1
    clear hds hex3 hmw
    have hSt := run_storeCells_new (P := Try.prog) W3 34 Try.zeroCells34 ds.toArray (by rw [List.size_toArray, HLD.out]; exact Try.sz34) (Try.zs34.trans (by rw [List.size_toArray, HLD.out])) (all_oneCell_toArray HOD.out)
    go_upto_region 5 with fail
    clear hSt
    have HX0 : Hid (MX (W3.alloc (.cells ds.toArray 34)) W3.heap.size M ur ua) := by
      have hmv := HMW.out.mv.new ((Ex.refl (fun _ => False) W3).alloc (.cells ds.toArray 34))
      refine ⟨hmv.ma (fun j u hj => ?_), fun j => by simp [go_sem], fun d hd k hk z => ?_, fun d hd k hk z => ?_, HMW.out.rr, HMW.out.aa, HMW.out.ra⟩
      · rw [HDS.out] at hj
        have := new_cells W3 ds 34 j u hj
        rwa [Addr.add_mid] at this
      · have := ((HMW.out.mv.ro d hd).lt k hk).2; omega
      · have := ((HMW.out.mv.ao d hd).lt k hk).2; omega
    have EX5 : Ex (fun _ => False) W1 (W3.alloc (.cells ds.toArray 34)) := HEX3.out.alloc _
    have HS5 : Hid (W1.heap.size ≤ W3.heap.size) := HEX3.out.size
    have HFT0 : Hid (∀ k, MFt W3.heap.size ur ua k → W1.heap.size ≤ k) := fun k hk => by
      rcases hk with hk | hk
      · have := HS5.out; omega
      · exact HMW.out.rin hk
    have c1 : (W3.alloc (.cells ds.toArray 34)).cell? ⟨r + 1, 1, none⟩ = some (.slice sa n sc) := ((Ex.refl (fun _ => False) W3).alloc _).cell (fun e => e) c1
    have HEX5 := hide EX5
    have HC1 := hide c1
    clear EX5 c1 HEX3 HMW HOD HLD
    generalize W3.alloc (.cells ds.toArray 34) = W5 at *
    generalize W3.heap.size = p at *
    generalize Value.agg ds.toArray = DV at *
    generalize Value.agg cs.toArray = CV at *
    have HOW : Hid (W1.ownsRow B0 45 9 (.slice sa n sc) n (flatC C)) := own_kept HOC.out HE1.out (fun _ _ e => e)
    have HOL : Hid (∀ k, (Value.slice sa n sc).ownBlock = some k → k < W1.heap.size) := fun k hk => (HOW.out.lt k hk).2
    go_wp2_with fail
    go_loopw [10, 11] (fun s10 s11 wr => ∃ (i : Nat) (Mi : MN) (xr xa : Nat → Value), s10 = .int .i64 i ∧ i ≤ n ∧ Hid (MX wr p Mi xr xa) ∧ Hid (MOk Mi) ∧ Hid (Ex (fun _ => False) W1 wr) ∧ Hid (∀ k, MFt p xr xa k → W1.heap.size ≤ k) ∧ Hid (mrun M C 0 = mrun Mi (C.drop i) i)) (fun s10 _ _ => n - (intOf s10).toNat)
    case atStart => exact ⟨0, M, ur, ua, rfl, Nat.zero_le _, HX0, hok, HEX5, HFT0, rfl⟩
    case round =>
      clear HX0 HFT0 HEX5 HC1
      obtain ⟨i, Mi, xr, xa, rfl, hin, HX, HOK, HE, HFT, HMR⟩ := hrel
      have c1 := HE.out.cell (fun e => e) HD1.out
      by_cases hi : i < n
      · have hib : decide ((i : Int) < (n : Int)) = true := decide_eq_true (by omega)
        have hii : (i : Int) < (n : Int) := by omega
        have o1 := own_kept HOW.out HE.out (fun _ _ e => e)
        obtain ⟨x, hx⟩ : ∃ x, C[i]? = some x := ⟨_, List.getElem?_eq_getElem (by rw [HNL.out]; exact hi)⟩
        obtain ⟨g, cc, hv⟩ := own_some o1 (by omega)
        injection hv with hv1 hv2 hv3
        subst hv1
        rw [← HNL.out] at o1
        obtain ⟨x0, x1, x2, x3, x4, x5, x6, x7, x8⟩ := co_of o1 rfl hx
        have HSP := hide (mrun_drop hx HMR.out)
        have HGX := hide (HGC.out x (List.mem_of_getElem? hx))
        have HCH := hide (mch_any wr p Mi xr xa HX.out x HGX.out HOK.out)
        have HOK2 := hide (mchg_ok HOK.out x HGX.out)
        obtain ⟨M2, hM2⟩ : ∃ q, (mchg Mi x).1 = q := ⟨_, rfl⟩
        obtain ⟨e2, he2⟩ : ∃ q, (mchg Mi x).2 = q := ⟨_, rfl⟩
        rw [hM2, he2] at HCH HSP
        rw [hM2] at HOK2
        clear hM2 he2 o1 hx hv2 hv3 HMR HGX
        obtain ⟨ykd, ydv, yhp, ypr, yln, yix, ycl, ypm, yup⟩ := x
        simp only [] at x0 x1 x2 x3 x4 x5 x6 x7 x8
        unfold chV at HCH
        simp only [] at HCH
        go_wp2_with fail
        refine HCH.out.mono ?_
        rintro e W6 ⟨rfl, hex6, yr, ya, hmx6, hft6⟩
        have HX6 := hide hmx6
        have HE6 : Hid (Ex (fun _ => False) W1 W6) := HE.out.trans2 hex6 (fun k hk => .inr (HFT.out k hk))
        have HFT6 : Hid (∀ k, MFt p yr ya k → W1.heap.size ≤ k) := fun k hk => by
          rcases hft6 k hk with z | z
          · exact HFT.out k z
          · have := HE.out.size; omega
        clear hex6 hmx6 hft6 HCH c1 x0 x1 x2 x3 x4 x5 x6 x7 x8 HX HFT HE HOK
        by_cases hz : e2 = 0
        · subst hz
          rw [if_pos rfl] at HSP
          go_wp2
          go_roundw
          case rel => exact ⟨i + 1, M2, yr, ya, by go_num, by omega, HX6, HOK2, HE6, HFT6, HSP⟩
          case measure => (simp [intOf]; try omega)
        · have hzb : (e2 != 0) = true := by simp [hz]
          rw [if_neg hz] at HSP
          have HRS : Hid (R = (M, e2, (i : Int))) := by
            have := HMA.out
            rw [HSP.out] at this
            simp only [if_neg hz] at this
            exact this
          have HRB6 : Hid (W6.rangeAt r 0 cs) := fun j u hj => HE6.out.cell (fun e => e) (HRB1.out j u hj)
          have HTR6 : Hid (W6.there (r + 2) 0 304) := there_keep (S := fun _ => False) HTR1.out HE6.out (fun e => e)
          clear HSP HMA HX6 HFT6 HOK2
          go_upto_region 10 with fail
          refine wp_region_lit ?_
          refine wpL_load rfl 34 (.tmp 2) rfl r 0 rfl cs _ HRB6.out Try.underlying34 rfl (by rw [HLN.out]; exact Try.sz34) ?_
          try simp only [Act.put, List.getElem_toArray, List.getElem_cons_zero, List.getElem_cons_succ, List.setIfInBounds_toArray, List.set_cons_zero, List.set_cons_succ]
          refine wpL_run rfl (.int .i64 e2) _ rfl ?_
          try simp only [Act.put, List.getElem_toArray, List.getElem_cons_zero, List.getElem_cons_succ, List.setIfInBounds_toArray, List.set_cons_zero, List.set_cons_succ]
          refine wpL_run rfl (.int .i64 (i : Int)) _ rfl ?_
          try simp only [Act.put, List.getElem_toArray, List.getElem_cons_zero, List.getElem_cons_succ, List.setIfInBounds_toArray, List.set_cons_zero, List.set_cons_succ]
          refine wpL_store rfl 34 (.tmp 4) (.tmp 39) rfl (r + 2) 0 cs rfl rfl (by rw [HLN.out]; exact HTR6.out) (by rw [HLN.out]; exact Try.sz34) HON.out ?_
          try simp only [Act.put, List.getElem_toArray, List.getElem_cons_zero, List.getElem_cons_succ, List.setIfInBounds_toArray, List.set_cons_zero, List.set_cons_succ]
          refine wpL_run rfl (.int .i64 e2) _ rfl ?_
          try simp only [Act.put, List.getElem_toArray, List.getElem_cons_zero, List.getElem_cons_succ, List.setIfInBounds_toArray, List.set_cons_zero, List.set_cons_succ]
          refine wpL_run rfl (.int .i64 (i : Int)) _ rfl ?_
          try simp only [Act.put, List.getElem_toArray, List.getElem_cons_zero, List.getElem_cons_succ, List.setIfInBounds_toArray, List.set_cons_zero, List.set_cons_succ]
          refine wpList_nil ?_
          have EB : Ex (fun k => k = r + 2) W6 (W6.setCells (r + 2) 0 cs) := Ex.sets (S := fun k => k = r + 2) (p := r + 2) rfl _ _ _ (Ex.refl _ _)
          have HEF : Hid (Ex (fun _ => False) w (W6.setCells (r + 2) 0 cs)) := (HE1.out.trans HE6.out).trans2 EB (fun k hk => .inr (by rw [HR.out]; omega))
          have HRX : Hid ((W6.setCells (r + 2) 0 cs).rangeAt (r + 2) 0 cs) := World.rangeAt_setCells_same _ _ 0 cs (by rw [HLN.out]; exact HTR6.out)
          generalize W6.setCells (r + 2) 0 cs = W7 at *
          go_wp2
          refine bodyPost_ret (v := .tuple #[.agg cs.toArray, .int .i64 e2, .int .i64 (i : Int)]) ?_ rfl ?_
          · have HLD := run_loadVar_mid (P := Try.prog) W7 (r + 2) 0 34 cs _ HRX.out Try.underlying34 rfl (by rw [HLN.out]; exact Try.sz34)
            exact results_three (a := 4) Try.results49 rfl rfl rfl HLD
          · rw [HRS.out]
            exact ⟨vr, va, by rw [HCS.out], HEF.out, HMV.out.new HEF.out, fun k hk => .inl hk⟩
      · obtain rfl : i = n := by omega
        have hib : decide ((i : Int) < (i : Int)) = false := decide_eq_false (by omega)
        have HRS : Hid (R = (Mi, 0, 0)) := by
          have h1 := HMR.out
          rw [List.drop_of_length_le (by rw [HNL.out]; exact Nat.le_refl _), mrun] at h1
          have := HMA.out
          rw [h1] at this
          exact this
        have HRBi : Hid (wr.rangeAt p 0 (mnC Mi xr xa)) := HX.out.ma.range
        have HLi := hide (mnC_len Mi xr xa)
        have HOi := hide HX.out.ma.mv.one
        obtain ⟨ts, hts⟩ : ∃ ts, mnC Mi xr xa = ts := ⟨_, rfl⟩
        rw [hts] at HRBi HLi HOi
        have HTS := hide hts
        have HTRi : Hid (wr.there (r + 2) 0 304) := there_keep (S := fun _ => False) HTR1.out HE.out (fun e => e)
        clear hts HMR HMA
        go_upto_region 11 with fail
        refine wp_region_lit ?_
        refine wpL_load rfl 34 (.tmp 9) rfl p 0 rfl ts _ HRBi.out Try.underlying34 rfl (by rw [HLi.out]; exact Try.sz34) ?_
        try simp only [Act.put, List.getElem_toArray, List.getElem_cons_zero, List.getElem_cons_succ, List.setIfInBounds_toArray, List.set_cons_zero, List.set_cons_succ]
        refine wpL_store rfl 34 (.tmp 4) (.tmp 42) rfl (r + 2) 0 ts rfl rfl (by rw [HLi.out]; exact HTRi.out) (by rw [HLi.out]; exact Try.sz34) HOi.out ?_
        try simp only [Act.put, List.getElem_toArray, List.getElem_cons_zero, List.getElem_cons_succ, List.setIfInBounds_toArray, List.set_cons_zero, List.set_cons_succ]
        refine wpL_run rfl (.int .i64 0) _ rfl ?_
        try simp only [Act.put, List.getElem_toArray, List.getElem_cons_zero, List.getElem_cons_succ, List.setIfInBounds_toArray, List.set_cons_zero, List.set_cons_succ]
        refine wpL_run rfl (.int .i64 0) _ rfl ?_
        try simp only [Act.put, List.getElem_toArray, List.getElem_cons_zero, List.getElem_cons_succ, List.setIfInBounds_toArray, List.set_cons_zero, List.set_cons_succ]
        refine wpList_nil ?_
        have EB : Ex (fun k => k = r + 2) wr (wr.setCells (r + 2) 0 ts) := Ex.sets (S := fun k => k = r + 2) (p := r + 2) rfl _ _ _ (Ex.refl _ _)
        have HEF : Hid (Ex (fun _ => False) w (wr.setCells (r + 2) 0 ts)) := (HE1.out.trans HE.out).trans2 EB (fun k hk => .inr (by rw [HR.out]; omega))
        have HRX : Hid ((wr.setCells (r + 2) 0 ts).rangeAt (r + 2) 0 ts) := World.rangeAt_setCells_same _ _ 0 ts (by rw [HLi.out]; exact HTRi.out)
        have HMF : Hid (MV (wr.setCells (r + 2) 0 ts) Mi xr xa) := HX.out.ma.mv.keep EB (fun d hd k hk (z : k = r + 2) => by have := HFT.out k (.inr ⟨d, hd, .inl hk⟩); have := HS1.out; omega) (fun d hd k hk (z : k = r + 2) => by have := HFT.out k (.inr ⟨d, hd, .inr hk⟩); have := HS1.out; omega)
        generalize wr.setCells (r + 2) 0 ts = W7 at *
        go_wp2
        refine bodyPost_ret (v := .tuple #[.agg ts.toArray, .int .i64 0, .int .i64 0]) ?_ rfl ?_
        · have HLD := run_loadVar_mid (P := Try.prog) W7 (r + 2) 0 34 ts _ HRX.out Try.underlying34 rfl (by rw [HLi.out]; exact Try.sz34)
          exact results_three (a := 4) Try.results49 rfl rfl rfl HLD
        · rw [HRS.out]
          exact ⟨xr, xa, by rw [HTS.out], HEF.out, HMF.out, fun k hk => .inr (by have := HFT.out k (.inr hk); have := HE1.out.size; omega)⟩
  · have hne : (e1 != 0) = true := by simp [he]
    rw [if_neg he] at HMA
    go_upto_region 3 with fail
    refine wp_region_lit ?_
    refine wpL_load rfl 34 (.tmp 2) rfl r 0 rfl cs _ HRB1.out Try.underlying34 rfl (by rw [HLN.out]; exact Try.sz34) ?_
    try simp only [Act.put, List.getElem_toArray, List.getElem_cons_zero, List.getElem_cons_succ, List.setIfInBounds_toArray, List.set_cons_zero, List.set_cons_succ]
    refine wpL_run rfl (.int .i64 e1) _ rfl ?_
    try simp only [Act.put, List.getElem_toArray, List.getElem_cons_zero, List.getElem_cons_succ, List.setIfInBounds_toArray, List.set_cons_zero, List.set_cons_succ]
    refine wpL_run rfl (.int .i64 a1) _ rfl ?_
    try simp only [Act.put, List.getElem_toArray, List.getElem_cons_zero, List.getElem_cons_succ, List.setIfInBounds_toArray, List.set_cons_zero, List.set_cons_succ]
    refine wpL_store rfl 34 (.tmp 4) (.tmp 19) rfl (r + 2) 0 cs rfl rfl (by rw [HLN.out]; exact HTR1.out) (by rw [HLN.out]; exact Try.sz34) HON.out ?_
    try simp only [Act.put, List.getElem_toArray, List.getElem_cons_zero, List.getElem_cons_succ, List.setIfInBounds_toArray, List.set_cons_zero, List.set_cons_succ]
    refine wpL_run rfl (.int .i64 e1) _ rfl ?_
    try simp only [Act.put, List.getElem_toArray, List.getElem_cons_zero, List.getElem_cons_succ, List.setIfInBounds_toArray, List.set_cons_zero, List.set_cons_succ]
    refine wpL_run rfl (.int .i64 a1) _ rfl ?_
    try simp only [Act.put, List.getElem_toArray, List.getElem_cons_zero, List.getElem_cons_succ, List.setIfInBounds_toArray, List.set_cons_zero, List.set_cons_succ]
    refine wpList_nil ?_
    have EB : Ex (fun k => k = r + 2) W1 (W1.setCells (r + 2) 0 cs) := Ex.sets (S := fun k => k = r + 2) (p := r + 2) rfl _ _ _ (Ex.refl _ _)
    have HEF : Hid (Ex (fun _ => False) w (W1.setCells (r + 2) 0 cs)) := HE1.out.trans2 EB (fun k hk => .inr (by rw [HR.out]; omega))
    have HRX : Hid ((W1.setCells (r + 2) 0 cs).rangeAt (r + 2) 0 cs) := World.rangeAt_setCells_same _ _ 0 cs (by rw [HLN.out]; exact HTR1.out)
    generalize W1.setCells (r + 2) 0 cs = W7 at *
    go_wp2
    refine bodyPost_ret (v := .tuple #[.agg cs.toArray, .int .i64 e1, .int .i64 a1]) ?_ rfl ?_
    · have HLD := run_loadVar_mid (P := Try.prog) W7 (r + 2) 0 34 cs _ HRX.out Try.underlying34 rfl (by rw [HLN.out]; exact Try.sz34)
      exact results_three (a := 4) Try.results49 rfl rfl rfl HLD
    · rw [HMA.out]
      exact ⟨vr, va, by rw [HCS.out], HEF.out, HMV.out.new HEF.out, fun k hk => .inl hk⟩
end Go.Proofs.Qxb6500778a
