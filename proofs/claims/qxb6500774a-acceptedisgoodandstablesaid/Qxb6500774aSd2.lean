import Derived.Test.Qxb6500774aSc0
namespace Go.Proofs.Qxb6500774a
open Go.RowKit
set_option linter.unusedVariables false
set_option linter.unusedSimpArgs false

def prO (b : Bool) (f : XP) (wi : Int) (g : XP) : Obj := .cells #[.bool b, .int .i64 f.k, .string f.x, .int .i64 f.n, .string f.m, .slice f.q f.ql f.qc, .int .i64 f.li, .int .i64 f.co, .int .i64 wi, .int .i64 g.k, .string g.x, .int .i64 g.n, .string g.m, .slice g.q g.ql g.qc, .int .i64 g.li, .int .i64 g.co] 49
theorem qk_new (w : World) (b : Bool) (f : XP) (wi : Int) (g : XP) : QK (w.alloc (prO b f wi g)) w.heap.size b f wi g := by
  have n := fun j u h => new_cells w [.bool b, .int .i64 f.k, .string f.x, .int .i64 f.n, .string f.m, .slice f.q f.ql f.qc, .int .i64 f.li, .int .i64 f.co, .int .i64 wi, .int .i64 g.k, .string g.x, .int .i64 g.n, .string g.m, .slice g.q g.ql g.qc, .int .i64 g.li, .int .i64 g.co] 49 j u h
  exact ⟨n 0 _ rfl, n 1 _ rfl, n 2 _ rfl, n 3 _ rfl, n 4 _ rfl, n 5 _ rfl, n 6 _ rfl, n 7 _ rfl, n 8 _ rfl, n 9 _ rfl, n 10 _ rfl, n 11 _ rfl, n 12 _ rfl, n 13 _ rfl, n 14 _ rfl, n 15 _ rfl, fun j => by simp [go_sem, prO]⟩
set_option linter.unusedSimpArgs false in
set_option linter.unusedVariables false in
set_option maxRecDepth 100000 in
set_option maxHeartbeats 32000000 in
theorem sameProp (w : World) (b b' : Bool) (wi wi' : Int) (f1 f2 g1 g2 : XP) (r1 r2 : Bool) (h1 : ∀ W, Ex (fun _ => False) w W → Calls Try.prog 42 #[xV f1, xV g1, .bool false] W (RdB W r1)) (h2 : ∀ W, Ex (fun _ => False) w W → Calls Try.prog 42 #[xV f2, xV g2, .bool false] W (RdB W r2)) : Calls Try.prog 21 #[prV b f1 wi f2, prV b' g1 wi' g2, .bool false] w (RdB w ((b == b') && (wi == wi') && r1 && r2)) := by
  have HC1 := hide h1
  have HC2 := hide h2
  clear h1 h2
  obtain ⟨bb, e1⟩ : ∃ d, (b == b') = d := ⟨_, rfl⟩
  obtain ⟨bw, e2⟩ : ∃ d, (wi == wi') = d := ⟨_, rfl⟩
  rw [e1, e2]
  have exa : Ex (fun _ => False) w (w.alloc (prO b f1 wi f2)) := (Ex.refl _ _).alloc _
  have HE := hide (exa.alloc (prO b' g1 wi' g2))
  have HKa := hide ((qk_new w b f1 wi f2).keep ((Ex.refl (fun _ => False) (w.alloc (prO b f1 wi f2))).alloc (prO b' g1 wi' g2)) (fun z => z))
  have HKb := hide (qk_new (w.alloc (prO b f1 wi f2)) b' g1 wi' g2)
  have hsz : (w.alloc (prO b f1 wi f2)).heap.size = w.heap.size + 1 := Array.size_push _
  rw [hsz] at HKb
  clear exa hsz
  obtain ⟨w1, hw1⟩ : ∃ wz, (w.alloc (prO b f1 wi f2)).alloc (prO b' g1 wi' g2) = wz := ⟨_, rfl⟩
  rw [hw1] at HE HKa HKb
  have HW1 := hide hw1
  unfold prO at HW1
  clear hw1
  unfold prV
  unfold xV at HC1 HC2
  go_enter Try.func21, Try.ntmps21
  go_upto_region 1 with fail
  rw [HW1.out]
  clear HW1
  generalize w.heap.size + 1 = p4 at *
  generalize w.heap.size = p3 at *
  have ka0 := HKa.out.c0
  have ka1 := HKa.out.c1
  have ka2 := HKa.out.c2
  have ka3 := HKa.out.c3
  have ka4 := HKa.out.c4
  have ka5 := HKa.out.c5
  have ka6 := HKa.out.c6
  have ka7 := HKa.out.c7
  have ka8 := HKa.out.c8
  have ka9 := HKa.out.c9
  have ka10 := HKa.out.c10
  have ka11 := HKa.out.c11
  have ka12 := HKa.out.c12
  have ka13 := HKa.out.c13
  have ka14 := HKa.out.c14
  have ka15 := HKa.out.c15
  have kb0 := HKb.out.c0
  have kb1 := HKb.out.c1
  have kb2 := HKb.out.c2
  have kb3 := HKb.out.c3
  have kb4 := HKb.out.c4
  have kb5 := HKb.out.c5
  have kb6 := HKb.out.c6
  have kb7 := HKb.out.c7
  have kb8 := HKb.out.c8
  have kb9 := HKb.out.c9
  have kb10 := HKb.out.c10
  have kb11 := HKb.out.c11
  have kb12 := HKb.out.c12
  have kb13 := HKb.out.c13
  have kb14 := HKb.out.c14
  have kb15 := HKb.out.c15
  have HCW := hide (HC1.out w1 HE.out)
  cases bb
  · go_wp2
    go_ret
    exact ⟨rfl, HE.out⟩
  cases bw
  · go_wp2
    go_ret
    exact ⟨rfl, HE.out⟩
  go_wp2_with fail
  refine HCW.out.mono ?_
  rintro e9 w2 ⟨rfl, hex2⟩
  have HE2 := hide (HE.out.trans hex2)
  have HKa2 := hide (HKa.out.keep hex2 (fun z => z))
  have HKb2 := hide (HKb.out.keep hex2 (fun z => z))
  clear hex2 HCW HC1 HKa HKb ka0 kb0 ka1 kb1 ka2 kb2 ka3 kb3 ka4 kb4 ka5 kb5 ka6 kb6 ka7 kb7 ka8 kb8 ka9 kb9 ka10 kb10 ka11 kb11 ka12 kb12 ka13 kb13 ka14 kb14 ka15 kb15
  simp only []
  cases r1
  · go_wp2
    go_ret
    exact ⟨rfl, HE2.out⟩
  have ka0 := HKa2.out.c0
  have ka1 := HKa2.out.c1
  have ka2 := HKa2.out.c2
  have ka3 := HKa2.out.c3
  have ka4 := HKa2.out.c4
  have ka5 := HKa2.out.c5
  have ka6 := HKa2.out.c6
  have ka7 := HKa2.out.c7
  have ka8 := HKa2.out.c8
  have ka9 := HKa2.out.c9
  have ka10 := HKa2.out.c10
  have ka11 := HKa2.out.c11
  have ka12 := HKa2.out.c12
  have ka13 := HKa2.out.c13
  have ka14 := HKa2.out.c14
  have ka15 := HKa2.out.c15
  have kb0 := HKb2.out.c0
  have kb1 := HKb2.out.c1
  have kb2 := HKb2.out.c2
  have kb3 := HKb2.out.c3
  have kb4 := HKb2.out.c4
  have kb5 := HKb2.out.c5
  have kb6 := HKb2.out.c6
  have kb7 := HKb2.out.c7
  have kb8 := HKb2.out.c8
  have kb9 := HKb2.out.c9
  have kb10 := HKb2.out.c10
  have kb11 := HKb2.out.c11
  have kb12 := HKb2.out.c12
  have kb13 := HKb2.out.c13
  have kb14 := HKb2.out.c14
  have kb15 := HKb2.out.c15
  have HCV := hide (HC2.out w2 HE2.out)
  go_wp2_with (go_at_call 42; refine HCV.out.mono ?_; rintro e9 w3 ⟨rfl, hex3⟩; have HE3 := hide (HE2.out.trans hex3); clear hex3; simp only [])
  go_ret
  exact ⟨by cases r2 <;> rfl, HE3.out⟩
set_option linter.unusedSimpArgs false in
set_option linter.unusedVariables false in
set_option maxRecDepth 100000 in
set_option maxHeartbeats 32000000 in
theorem goodProp_t (w : World) (wi : Int) (f1 f2 : XP) (hwi : 0 ≤ wi) (h2 : ∀ W, Ex (fun _ => False) w W → Calls Try.prog 27 #[xV f2] W (RdB W true)) (h1 : ∀ W, Ex (fun _ => False) w W → Calls Try.prog 27 #[xV f1] W (RdB W true)) : Calls Try.prog 17 #[prV true f1 wi f2] w (RdB w true) := by
  have HC1 := hide h1
  clear h1
  have HC2 := hide h2
  have d0 : decide ((0 : Int) ≤ wi) = true := decide_eq_true hwi
  clear h2 hwi
  unfold xV at HC2
  have HE : Hid (Ex (fun _ => False) w (w.alloc (prO true f1 wi f2))) := (Ex.refl _ _).alloc _
  have HKa := hide (qk_new w true f1 wi f2)
  obtain ⟨w1, hw1⟩ : ∃ wz, w.alloc (prO true f1 wi f2) = wz := ⟨_, rfl⟩
  rw [hw1] at HE HKa
  have HW1 := hide hw1
  unfold prO at HW1
  clear hw1
  unfold prV
  unfold xV at HC1
  go_enter Try.func17, Try.ntmps17
  go_upto_region 1 with fail
  rw [HW1.out]
  clear HW1
  generalize w.heap.size = p3 at *
  have ka0 := HKa.out.c0
  have ka1 := HKa.out.c1
  have ka2 := HKa.out.c2
  have ka3 := HKa.out.c3
  have ka4 := HKa.out.c4
  have ka5 := HKa.out.c5
  have ka6 := HKa.out.c6
  have ka7 := HKa.out.c7
  have ka8 := HKa.out.c8
  have ka9 := HKa.out.c9
  have ka10 := HKa.out.c10
  have ka11 := HKa.out.c11
  have ka12 := HKa.out.c12
  have ka13 := HKa.out.c13
  have ka14 := HKa.out.c14
  have ka15 := HKa.out.c15
  have HCW := hide (HC1.out w1 HE.out)
  go_wp2_with fail
  refine HCW.out.mono ?_
  rintro e9 w2 ⟨rfl, hex2⟩
  have HE2 := hide (HE.out.trans hex2)
  have HKa2 := hide (HKa.out.keep hex2 (fun z => z))
  clear hex2 HCW HC1 HKa ka0 ka1 ka2 ka3 ka4 ka5 ka6 ka7 ka8 ka9 ka10 ka11 ka12 ka13 ka14 ka15
  simp only []
  have ka0 := HKa2.out.c0
  have ka1 := HKa2.out.c1
  have ka2 := HKa2.out.c2
  have ka3 := HKa2.out.c3
  have ka4 := HKa2.out.c4
  have ka5 := HKa2.out.c5
  have ka6 := HKa2.out.c6
  have ka7 := HKa2.out.c7
  have ka8 := HKa2.out.c8
  have ka9 := HKa2.out.c9
  have ka10 := HKa2.out.c10
  have ka11 := HKa2.out.c11
  have ka12 := HKa2.out.c12
  have ka13 := HKa2.out.c13
  have ka14 := HKa2.out.c14
  have ka15 := HKa2.out.c15
  have HCV := hide (HC2.out w2 HE2.out)
  go_wp2_with (go_at_call 27; refine HCV.out.mono ?_; rintro e9 w3 ⟨rfl, hex3⟩; have HE3 := hide (HE2.out.trans hex3); clear hex3; simp only [])
  go_ret
  exact ⟨rfl, HE3.out⟩
set_option linter.unusedSimpArgs false in
set_option linter.unusedVariables false in
set_option maxRecDepth 100000 in
set_option maxHeartbeats 32000000 in
theorem goodProp_f (w : World) (wi : Int) (f1 f2 : XP) (hwi : wi = 0) (hf2 : f2 = x00) (h1 : ∀ W, Ex (fun _ => False) w W → Calls Try.prog 27 #[xV f1] W (RdB W true)) : Calls Try.prog 17 #[prV false f1 wi f2] w (RdB w true) := by
  have HC1 := hide h1
  clear h1
  subst hwi hf2
  have HC2 : Hid (∀ W, Calls Try.prog 42 #[xV x00, xV x00, .bool true] W (RdB W true)) := fun W => by
    have := sameExpr_any .nil W .nil true x00 x00 [] [] (RW.nil W ND) rfl (RW.nil W ND) rfl
    rw [show (hdZ true x00 x00 && sZ true .nil .nil) = true by simp [hdZ, eqB_rfl, sZ]] at this
    exact this
  unfold xV x00 nb at HC2
  dsimp only at HC2
  have HE : Hid (Ex (fun _ => False) w (w.alloc (prO false f1 0 x00))) := (Ex.refl _ _).alloc _
  have HKa := hide (qk_new w false f1 0 x00)
  obtain ⟨w1, hw1⟩ : ∃ wz, w.alloc (prO false f1 0 x00) = wz := ⟨_, rfl⟩
  rw [hw1] at HE HKa
  have HW1 := hide hw1
  unfold prO at HW1
  clear hw1
  unfold prV
  unfold xV at HC1
  go_enter Try.func17, Try.ntmps17
  go_upto_region 1 with fail
  rw [HW1.out]
  clear HW1
  generalize w.heap.size = p3 at *
  have ka0 := HKa.out.c0
  have ka1 := HKa.out.c1
  have ka2 := HKa.out.c2
  have ka3 := HKa.out.c3
  have ka4 := HKa.out.c4
  have ka5 := HKa.out.c5
  have ka6 := HKa.out.c6
  have ka7 := HKa.out.c7
  have ka8 := HKa.out.c8
  have ka9 := HKa.out.c9
  have ka10 := HKa.out.c10
  have ka11 := HKa.out.c11
  have ka12 := HKa.out.c12
  have ka13 := HKa.out.c13
  have ka14 := HKa.out.c14
  have ka15 := HKa.out.c15
  have HCW := hide (HC1.out w1 HE.out)
  go_wp2_with fail
  refine HCW.out.mono ?_
  rintro e9 w2 ⟨rfl, hex2⟩
  have HE2 := hide (HE.out.trans hex2)
  have HKa2 := hide (HKa.out.keep hex2 (fun z => z))
  clear hex2 HCW HC1 HKa ka0 ka1 ka2 ka3 ka4 ka5 ka6 ka7 ka8 ka9 ka10 ka11 ka12 ka13 ka14 ka15
  simp only []
  have ka0 := HKa2.out.c0
  have ka1 := HKa2.out.c1
  have ka2 := HKa2.out.c2
  have ka3 := HKa2.out.c3
  have ka4 := HKa2.out.c4
  have ka5 := HKa2.out.c5
  have ka6 := HKa2.out.c6
  have ka7 := HKa2.out.c7
  have ka8 := HKa2.out.c8
  have ka9 := HKa2.out.c9
  have ka10 := HKa2.out.c10
  have ka11 := HKa2.out.c11
  have ka12 := HKa2.out.c12
  have ka13 := HKa2.out.c13
  have ka14 := HKa2.out.c14
  have ka15 := HKa2.out.c15
  unfold x00 nb at ka9 ka10 ka11 ka12 ka13 ka14 ka15
  dsimp only at ka9 ka10 ka11 ka12 ka13 ka14 ka15
  go_wp2_with (go_at_call 42; refine (HC2.out w2).mono ?_; rintro e9 w3 ⟨rfl, hex3⟩; have HE3 := hide (HE2.out.trans hex3); clear hex3; simp only [])
  go_ret
  exact ⟨rfl, HE3.out⟩
set_option linter.unusedSimpArgs false in
set_option linter.unusedVariables false in
set_option maxRecDepth 100000 in
set_option maxHeartbeats 32000000 in
theorem came_long (w : World) (l c : Int) (n : Nat) (sm : Bool) (hn : 1048576 < n) : Calls Try.prog 13 #[.agg #[.int .i64 1, .int .i64 l, .int .i64 c], .int .i64 n, .int .i64 0, .bool sm] w (RdB w true) := by
  have d : decide ((1048576 : Int) < (n : Int)) = true := decide_eq_true (by omega)
  have d2 : decide (1048576 < n) = true := decide_eq_true hn
  have HE : Hid (Ex (fun _ => False) w (w.alloc (.cells #[.int .i64 1, .int .i64 l, .int .i64 c] 36))) := (Ex.refl _ _).alloc _
  clear hn
  go_enter Try.func13, Try.ntmps13
  go_wp2
  go_ret
  exact ⟨rfl, HE.out⟩
set_option linter.unusedSimpArgs false in
set_option linter.unusedVariables false in
set_option maxRecDepth 100000 in
set_option maxHeartbeats 32000000 in
theorem came_ok (w : World) (l c : Int) (n : Nat) (hn : n ≤ 1048576) : Calls Try.prog 13 #[.agg #[.int .i64 0, .int .i64 l, .int .i64 c], .int .i64 n, .int .i64 0, .bool true] w (RdB w true) := by
  have d : decide ((1048576 : Int) < (n : Int)) = false := decide_eq_false (by omega)
  have d2 : decide (1048576 < n) = false := decide_eq_false (by omega)
  have HE : Hid (Ex (fun _ => False) w (w.alloc (.cells #[.int .i64 0, .int .i64 l, .int .i64 c] 36))) := (Ex.refl _ _).alloc _
  clear hn
  go_enter Try.func13, Try.ntmps13
  go_wp2
  go_ret
  exact ⟨rfl, HE.out⟩
end Go.Proofs.Qxb6500774a
