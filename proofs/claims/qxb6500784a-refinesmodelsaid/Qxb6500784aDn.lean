import Derived.Test.Qxb6500784aNx
namespace Go.Proofs.Qxb6500784a
open Go.RowKit

set_option linter.unusedSimpArgs false in
set_option maxRecDepth 100000 in
set_option maxHeartbeats 8000000 in
theorem commitL_none (w : World) (b o : Nat) (l : Led0) (B : List Nat) (h : LA w b o l [] B) :
    Calls Try.prog 67 #[.pointer (some ⟨b, o, none⟩)] w (LStep w b o B (.int .i64 35) l []) := by
  obtain ⟨a, c, c1⟩ := h.sav
  have c2 : w.cell? ⟨b, o + 325, none⟩ = some (.slice a 0 c) := c1
  have HR : Hid (LStep w b o B (.int .i64 35) l [] (.returned (.int .i64 35)) w) := ⟨rfl, Cg.refl _ _ _ _ _, B, h, fun j hj => .inl hj⟩
  generalize LStep w b o B (.int .i64 35) l [] = R at *
  clear h c1
  go_enter Try.func67, Try.ntmps67
  go_wp2
  exact HR.out
theorem commitL_all (w : World) (b o : Nat) (l : Led0) (sv : List Led0) (B : List Nat) (h : LA w b o l sv B) (hl : sv.length ≤ 1000) :
    Calls Try.prog 67 #[.pointer (some ⟨b, o, none⟩)] w (LStep w b o B (.int .i64 (if sv = [] then 35 else 0)) l sv.dropLast) := by
  by_cases e : sv = []
  · subst e
    rw [if_pos rfl]
    exact commitL_none w b o l B h
  · rw [if_neg e]
    have e2 : sv = sv.dropLast ++ [sv.getLast e] := (List.dropLast_concat_getLast e).symm
    rw [e2] at h
    exact commitL_any w b o l _ _ B h (by simp; omega)
theorem checkL_all (w : World) (b o : Nat) (l : Led0) (sv : List Led0) (B : List Nat) (h : LA w b o l sv B) (hsm : SmallL l sv) :
    Calls Try.prog 65 #[.pointer (some ⟨b, o, none⟩)] w (LStep w b o B (.int .i64 (if 8 ≤ sv.length then 34 else 0)) l (if 8 ≤ sv.length then sv else sv ++ [l])) := by
  by_cases e : 8 ≤ sv.length
  · rw [if_pos e, if_pos e]
    exact checkL_deep w b o l sv B h e hsm.2.2
  · rw [if_neg e, if_neg e]
    exact checkL_any w b o l sv B h (by omega) hsm
set_option linter.unusedSimpArgs false in
set_option maxRecDepth 100000 in
set_option maxHeartbeats 8000000 in
theorem commitB_none (w : World) (b o : Nat) (l : Box0) (B : List Nat) (h : BA w b o l [] B) :
    Calls Try.prog 68 #[.pointer (some ⟨b, o, none⟩)] w (BStep w b o B (.int .i64 35) l []) := by
  obtain ⟨a, c, c1⟩ := h.sav
  have c2 : w.cell? ⟨b, o + 4, none⟩ = some (.slice a 0 c) := c1
  have HR : Hid (BStep w b o B (.int .i64 35) l [] (.returned (.int .i64 35)) w) := ⟨rfl, Cg.refl _ _ _ _ _, B, h, fun j hj => .inl hj⟩
  generalize BStep w b o B (.int .i64 35) l [] = R at *
  clear h c1
  go_enter Try.func68, Try.ntmps68
  go_wp2
  exact HR.out
theorem commitB_all (w : World) (b o : Nat) (l : Box0) (sv : List Box0) (B : List Nat) (h : BA w b o l sv B) (hl : sv.length ≤ 1000) :
    Calls Try.prog 68 #[.pointer (some ⟨b, o, none⟩)] w (BStep w b o B (.int .i64 (if sv = [] then 35 else 0)) l sv.dropLast) := by
  by_cases e : sv = []
  · subst e
    rw [if_pos rfl]
    exact commitB_none w b o l B h
  · rw [if_neg e]
    have e2 : sv = sv.dropLast ++ [sv.getLast e] := (List.dropLast_concat_getLast e).symm
    rw [e2] at h
    exact commitB_any w b o l _ _ B h (by simp; omega)
theorem checkB_all (w : World) (b o : Nat) (l : Box0) (sv : List Box0) (B : List Nat) (h : BA w b o l sv B) (hsm : SmallB l sv) :
    Calls Try.prog 66 #[.pointer (some ⟨b, o, none⟩)] w (BStep w b o B (.int .i64 (if 8 ≤ sv.length then 34 else 0)) l (if 8 ≤ sv.length then sv else sv ++ [l])) := by
  by_cases e : 8 ≤ sv.length
  · rw [if_pos e, if_pos e]
    exact checkB_deep w b o l sv B h e hsm.2.2
  · rw [if_neg e, if_neg e]
    exact checkB_any w b o l sv B h (by omega) hsm
/-- A step's eight cells. -/
def opV (kd : Int) (a : Option Addr) (n cap : Nat) (ch pt gs ac tk am : Int) : List Value := [.int .i64 kd, .slice a n cap, .int .u8 ch, .int .i64 pt, .int .u64 gs, .int .u8 ac, .int .u8 tk, .int .u64 am]
def dpL (P : Pr) (ch : Int) (sv : List Led0) : Pr := if ch = 1 then { P with sa := sv } else { P with sb := sv }
def dpB (P : Pr) (ch : Int) (sv : List Box0) : Pr := if ch = 1 then { P with ta := sv } else { P with tb := sv }
def dpC (P : Pr) (kd ch pt : Int) : Int :=
  if ¬ (ch = 1 ∨ ch = 2) then 39
  else if kd = 6 then (if pt = 0 then (if 8 ≤ (P.sled ch).length then 34 else 0) else (if 8 ≤ (P.sbox ch).length then 34 else 0))
  else (if pt = 0 then (if P.sled ch = [] then 35 else 0) else (if P.sbox ch = [] then 35 else 0))
def dpS (P : Pr) (kd ch pt : Int) : Pr :=
  if ¬ (ch = 1 ∨ ch = 2) then P
  else if kd = 6 then (if pt = 0 then dpL P ch (if 8 ≤ (P.sled ch).length then P.sled ch else P.sled ch ++ [P.led ch]) else dpB P ch (if 8 ≤ (P.sbox ch).length then P.sbox ch else P.sbox ch ++ [P.box ch]))
  else (if pt = 0 then dpL P ch (P.sled ch).dropLast else dpB P ch (P.sbox ch).dropLast)
set_option linter.unusedSimpArgs false in
set_option maxRecDepth 100000 in
set_option maxHeartbeats 8000000 in
theorem deepen_bad (w : World) (b : Nat) (kd : Int) (a : Option Addr) (n cap : Nat) (ch pt gs ac tk am : Int) (hc : ¬ (ch = 1 ∨ ch = 2)) :
    Calls Try.prog 54 #[.pointer (some ⟨b, 0, none⟩), .agg (opV kd a n cap ch pt gs ac tk am).toArray] w fun e w' => e = .returned (.int .i64 39) ∧ Below w.heap.size w w' := by
  have d1 : (ch != 1) = true := by simp; exact fun e => hc (.inl e)
  have d2 : (ch != 2) = true := by simp; exact fun e => hc (.inr e)
  unfold opV
  have HBE := hide (be1 w (.cells #[.int .i64 kd, .slice a n cap, .int .u8 ch, .int .i64 pt, .int .u64 gs, .int .u8 ac, .int .u8 tk, .int .u64 am] 33))
  go_enter Try.func54, Try.ntmps54
  go_wp2
  go_ret
  exact ⟨rfl, HBE.out⟩
set_option linter.unusedSimpArgs false in
set_option maxRecDepth 100000 in
set_option maxHeartbeats 8000000 in
theorem deepen_AckL (w : World) (b : Nat) (P : Pr) (S : List Nat) (h : PP w b P S) (hsm : PSm P) (kd : Int) (a : Option Addr) (n cap : Nat) (pt gs ac tk am : Int) (hk : kd = 6) (hp : pt = 0) :
    Calls Try.prog 54 #[.pointer (some ⟨b, 0, none⟩), .agg (opV kd a n cap 1 pt gs ac tk am).toArray] w fun e w' => e = .returned (.int .i64 (if 8 ≤ P.sa.length then 34 else 0)) ∧ PStep w b S { P with la := P.la, sa := if 8 ≤ P.sa.length then P.sa else P.sa ++ [P.la] } w' := by
  subst hk
  subst hp
  have HSM := hide hsm
  have HP := hide h
  unfold opV
  have HBE := hide (be1 w (.cells #[.int .i64 6, .slice a n cap, .int .u8 1, .int .i64 0, .int .u64 gs, .int .u8 ac, .int .u8 tk, .int .u64 am] 33))
  obtain ⟨cd, hcd⟩ : ∃ cd : Int, (if 8 ≤ P.sa.length then 34 else 0) = cd := ⟨_, rfl⟩
  have HCL : Hid (∀ v, Below w.heap.size w v → Calls Try.prog 65 #[.pointer (some ⟨b, 0, none⟩)] v fun e w' => e = .returned (.int .i64 cd) ∧ PStep w b S { P with la := P.la, sa := if 8 ≤ P.sa.length then P.sa else P.sa ++ [P.la] } w') := fun v k => by
    obtain ⟨B, hla, hst⟩ := (h.below k).onA
    have HL := hide hla
    refine (checkL_all _ b 0 P.la P.sa B HL.out HSM.out.1).mono ?_
    intro e w' hbs
    rw [hcd] at hbs
    obtain ⟨he, hps⟩ := hst _ _ _ _ _ hbs
    obtain ⟨S', k', p'⟩ := hps.out
    have k2 := ((Link.refl w b S).below k).trans k'
    exact ⟨he, k2.1, S', p', k2.2⟩
  rw [hcd]
  obtain ⟨PQ, hPQ⟩ : ∃ PQ : Pr, { P with la := P.la, sa := if 8 ≤ P.sa.length then P.sa else P.sa ++ [P.la] } = PQ := ⟨_, rfl⟩
  rw [hPQ] at HCL ⊢
  clear hPQ hcd h hsm
  go_enter Try.func54, Try.ntmps54
  go_upto_region 3 with fail
  go_quiet (fail)
  go_wp2_with (go_at_call 65; refine (HCL.out _ (by first | exact lec HBE.out (below_dn _ _) | exact lec (lec HBE.out (below_dn _ _)) (below_dn _ _))).mono ?_; rintro e w5 ⟨rfl, hps⟩; have HPS := hide hps; clear hps; simp only [])
  go_ret
  exact ⟨rfl, HPS.out⟩
set_option linter.unusedSimpArgs false in
set_option maxRecDepth 100000 in
set_option maxHeartbeats 8000000 in
theorem deepen_AckB (w : World) (b : Nat) (P : Pr) (S : List Nat) (h : PP w b P S) (hsm : PSm P) (kd : Int) (a : Option Addr) (n cap : Nat) (pt gs ac tk am : Int) (hk : kd = 6) (hp : pt ≠ 0) :
    Calls Try.prog 54 #[.pointer (some ⟨b, 0, none⟩), .agg (opV kd a n cap 1 pt gs ac tk am).toArray] w fun e w' => e = .returned (.int .i64 (if 8 ≤ P.ta.length then 34 else 0)) ∧ PStep w b S { P with ba := P.ba, ta := if 8 ≤ P.ta.length then P.ta else P.ta ++ [P.ba] } w' := by
  subst hk
  have d2 : (pt == 0) = false := by simp [hp]
  have HSM := hide hsm
  have HP := hide h
  unfold opV
  have HBE := hide (be1 w (.cells #[.int .i64 6, .slice a n cap, .int .u8 1, .int .i64 pt, .int .u64 gs, .int .u8 ac, .int .u8 tk, .int .u64 am] 33))
  obtain ⟨cd, hcd⟩ : ∃ cd : Int, (if 8 ≤ P.ta.length then 34 else 0) = cd := ⟨_, rfl⟩
  have HCL : Hid (∀ v, Below w.heap.size w v → Calls Try.prog 66 #[.pointer (some ⟨b, 652, none⟩)] v fun e w' => e = .returned (.int .i64 cd) ∧ PStep w b S { P with ba := P.ba, ta := if 8 ≤ P.ta.length then P.ta else P.ta ++ [P.ba] } w') := fun v k => by
    obtain ⟨B, hla, hst⟩ := (h.below k).onC
    have HL := hide hla
    refine (checkB_all _ b 652 P.ba P.ta B HL.out HSM.out.2.2.1).mono ?_
    intro e w' hbs
    rw [hcd] at hbs
    obtain ⟨he, hps⟩ := hst _ _ _ _ _ hbs
    obtain ⟨S', k', p'⟩ := hps.out
    have k2 := ((Link.refl w b S).below k).trans k'
    exact ⟨he, k2.1, S', p', k2.2⟩
  rw [hcd]
  obtain ⟨PQ, hPQ⟩ : ∃ PQ : Pr, { P with ba := P.ba, ta := if 8 ≤ P.ta.length then P.ta else P.ta ++ [P.ba] } = PQ := ⟨_, rfl⟩
  rw [hPQ] at HCL ⊢
  clear hPQ hcd h hsm hp
  go_enter Try.func54, Try.ntmps54
  go_upto_region 3 with fail
  go_quiet (fail)
  go_wp2_with (go_at_call 66; refine (HCL.out _ (by first | exact lec HBE.out (below_dn _ _) | exact lec (lec HBE.out (below_dn _ _)) (below_dn _ _))).mono ?_; rintro e w5 ⟨rfl, hps⟩; have HPS := hide hps; clear hps; simp only [])
  go_ret
  exact ⟨rfl, HPS.out⟩
set_option linter.unusedSimpArgs false in
set_option maxRecDepth 100000 in
set_option maxHeartbeats 8000000 in
theorem deepen_AcmL (w : World) (b : Nat) (P : Pr) (S : List Nat) (h : PP w b P S) (hsm : PSm P) (kd : Int) (a : Option Addr) (n cap : Nat) (pt gs ac tk am : Int) (hk : kd ≠ 6) (hp : pt = 0) :
    Calls Try.prog 54 #[.pointer (some ⟨b, 0, none⟩), .agg (opV kd a n cap 1 pt gs ac tk am).toArray] w fun e w' => e = .returned (.int .i64 (if P.sa = [] then 35 else 0)) ∧ PStep w b S { P with la := P.la, sa := P.sa.dropLast } w' := by
  have d1 : (kd == 6) = false := by simp [hk]
  subst hp
  have HSM := hide hsm
  have HP := hide h
  unfold opV
  have HBE := hide (be1 w (.cells #[.int .i64 kd, .slice a n cap, .int .u8 1, .int .i64 0, .int .u64 gs, .int .u8 ac, .int .u8 tk, .int .u64 am] 33))
  obtain ⟨cd, hcd⟩ : ∃ cd : Int, (if P.sa = [] then 35 else 0) = cd := ⟨_, rfl⟩
  have HCL : Hid (∀ v, Below w.heap.size w v → Calls Try.prog 67 #[.pointer (some ⟨b, 0, none⟩)] v fun e w' => e = .returned (.int .i64 cd) ∧ PStep w b S { P with la := P.la, sa := P.sa.dropLast } w') := fun v k => by
    obtain ⟨B, hla, hst⟩ := (h.below k).onA
    have HL := hide hla
    refine (commitL_all _ b 0 P.la P.sa B HL.out HSM.out.1.2.2).mono ?_
    intro e w' hbs
    rw [hcd] at hbs
    obtain ⟨he, hps⟩ := hst _ _ _ _ _ hbs
    obtain ⟨S', k', p'⟩ := hps.out
    have k2 := ((Link.refl w b S).below k).trans k'
    exact ⟨he, k2.1, S', p', k2.2⟩
  rw [hcd]
  obtain ⟨PQ, hPQ⟩ : ∃ PQ : Pr, { P with la := P.la, sa := P.sa.dropLast } = PQ := ⟨_, rfl⟩
  rw [hPQ] at HCL ⊢
  clear hPQ hcd h hsm hk
  go_enter Try.func54, Try.ntmps54
  go_upto_region 3 with fail
  go_quiet (fail)
  go_wp2_with (go_at_call 67; refine (HCL.out _ (by first | exact lec HBE.out (below_dn _ _) | exact lec (lec HBE.out (below_dn _ _)) (below_dn _ _))).mono ?_; rintro e w5 ⟨rfl, hps⟩; have HPS := hide hps; clear hps; simp only [])
  go_ret
  exact ⟨rfl, HPS.out⟩
set_option linter.unusedSimpArgs false in
set_option maxRecDepth 100000 in
set_option maxHeartbeats 8000000 in
theorem deepen_AcmB (w : World) (b : Nat) (P : Pr) (S : List Nat) (h : PP w b P S) (hsm : PSm P) (kd : Int) (a : Option Addr) (n cap : Nat) (pt gs ac tk am : Int) (hk : kd ≠ 6) (hp : pt ≠ 0) :
    Calls Try.prog 54 #[.pointer (some ⟨b, 0, none⟩), .agg (opV kd a n cap 1 pt gs ac tk am).toArray] w fun e w' => e = .returned (.int .i64 (if P.ta = [] then 35 else 0)) ∧ PStep w b S { P with ba := P.ba, ta := P.ta.dropLast } w' := by
  have d1 : (kd == 6) = false := by simp [hk]
  have d2 : (pt == 0) = false := by simp [hp]
  have HSM := hide hsm
  have HP := hide h
  unfold opV
  have HBE := hide (be1 w (.cells #[.int .i64 kd, .slice a n cap, .int .u8 1, .int .i64 pt, .int .u64 gs, .int .u8 ac, .int .u8 tk, .int .u64 am] 33))
  obtain ⟨cd, hcd⟩ : ∃ cd : Int, (if P.ta = [] then 35 else 0) = cd := ⟨_, rfl⟩
  have HCL : Hid (∀ v, Below w.heap.size w v → Calls Try.prog 68 #[.pointer (some ⟨b, 652, none⟩)] v fun e w' => e = .returned (.int .i64 cd) ∧ PStep w b S { P with ba := P.ba, ta := P.ta.dropLast } w') := fun v k => by
    obtain ⟨B, hla, hst⟩ := (h.below k).onC
    have HL := hide hla
    refine (commitB_all _ b 652 P.ba P.ta B HL.out HSM.out.2.2.1.2.2).mono ?_
    intro e w' hbs
    rw [hcd] at hbs
    obtain ⟨he, hps⟩ := hst _ _ _ _ _ hbs
    obtain ⟨S', k', p'⟩ := hps.out
    have k2 := ((Link.refl w b S).below k).trans k'
    exact ⟨he, k2.1, S', p', k2.2⟩
  rw [hcd]
  obtain ⟨PQ, hPQ⟩ : ∃ PQ : Pr, { P with ba := P.ba, ta := P.ta.dropLast } = PQ := ⟨_, rfl⟩
  rw [hPQ] at HCL ⊢
  clear hPQ hcd h hsm hk hp
  go_enter Try.func54, Try.ntmps54
  go_upto_region 3 with fail
  go_quiet (fail)
  go_wp2_with (go_at_call 68; refine (HCL.out _ (by first | exact lec HBE.out (below_dn _ _) | exact lec (lec HBE.out (below_dn _ _)) (below_dn _ _))).mono ?_; rintro e w5 ⟨rfl, hps⟩; have HPS := hide hps; clear hps; simp only [])
  go_ret
  exact ⟨rfl, HPS.out⟩
set_option linter.unusedSimpArgs false in
set_option maxRecDepth 100000 in
set_option maxHeartbeats 8000000 in
theorem deepen_BckL (w : World) (b : Nat) (P : Pr) (S : List Nat) (h : PP w b P S) (hsm : PSm P) (kd : Int) (a : Option Addr) (n cap : Nat) (pt gs ac tk am : Int) (hk : kd = 6) (hp : pt = 0) :
    Calls Try.prog 54 #[.pointer (some ⟨b, 0, none⟩), .agg (opV kd a n cap 2 pt gs ac tk am).toArray] w fun e w' => e = .returned (.int .i64 (if 8 ≤ P.sb.length then 34 else 0)) ∧ PStep w b S { P with lb := P.lb, sb := if 8 ≤ P.sb.length then P.sb else P.sb ++ [P.lb] } w' := by
  subst hk
  subst hp
  have HSM := hide hsm
  have HP := hide h
  unfold opV
  have HBE := hide (be1 w (.cells #[.int .i64 6, .slice a n cap, .int .u8 2, .int .i64 0, .int .u64 gs, .int .u8 ac, .int .u8 tk, .int .u64 am] 33))
  obtain ⟨cd, hcd⟩ : ∃ cd : Int, (if 8 ≤ P.sb.length then 34 else 0) = cd := ⟨_, rfl⟩
  have HCL : Hid (∀ v, Below w.heap.size w v → Calls Try.prog 65 #[.pointer (some ⟨b, 326, none⟩)] v fun e w' => e = .returned (.int .i64 cd) ∧ PStep w b S { P with lb := P.lb, sb := if 8 ≤ P.sb.length then P.sb else P.sb ++ [P.lb] } w') := fun v k => by
    obtain ⟨B, hla, hst⟩ := (h.below k).onB
    have HL := hide hla
    refine (checkL_all _ b 326 P.lb P.sb B HL.out HSM.out.2.1).mono ?_
    intro e w' hbs
    rw [hcd] at hbs
    obtain ⟨he, hps⟩ := hst _ _ _ _ _ hbs
    obtain ⟨S', k', p'⟩ := hps.out
    have k2 := ((Link.refl w b S).below k).trans k'
    exact ⟨he, k2.1, S', p', k2.2⟩
  rw [hcd]
  obtain ⟨PQ, hPQ⟩ : ∃ PQ : Pr, { P with lb := P.lb, sb := if 8 ≤ P.sb.length then P.sb else P.sb ++ [P.lb] } = PQ := ⟨_, rfl⟩
  rw [hPQ] at HCL ⊢
  clear hPQ hcd h hsm
  go_enter Try.func54, Try.ntmps54
  go_upto_region 3 with fail
  go_quiet (fail)
  go_upto_region 5 with fail
  go_quiet (fail)
  go_wp2_with (go_at_call 65; refine (HCL.out _ (by first | exact lec HBE.out (below_dn _ _) | exact lec (lec HBE.out (below_dn _ _)) (below_dn _ _))).mono ?_; rintro e w5 ⟨rfl, hps⟩; have HPS := hide hps; clear hps; simp only [])
  go_ret
  exact ⟨rfl, HPS.out⟩
set_option linter.unusedSimpArgs false in
set_option maxRecDepth 100000 in
set_option maxHeartbeats 8000000 in
theorem deepen_BckB (w : World) (b : Nat) (P : Pr) (S : List Nat) (h : PP w b P S) (hsm : PSm P) (kd : Int) (a : Option Addr) (n cap : Nat) (pt gs ac tk am : Int) (hk : kd = 6) (hp : pt ≠ 0) :
    Calls Try.prog 54 #[.pointer (some ⟨b, 0, none⟩), .agg (opV kd a n cap 2 pt gs ac tk am).toArray] w fun e w' => e = .returned (.int .i64 (if 8 ≤ P.tb.length then 34 else 0)) ∧ PStep w b S { P with bb := P.bb, tb := if 8 ≤ P.tb.length then P.tb else P.tb ++ [P.bb] } w' := by
  subst hk
  have d2 : (pt == 0) = false := by simp [hp]
  have HSM := hide hsm
  have HP := hide h
  unfold opV
  have HBE := hide (be1 w (.cells #[.int .i64 6, .slice a n cap, .int .u8 2, .int .i64 pt, .int .u64 gs, .int .u8 ac, .int .u8 tk, .int .u64 am] 33))
  obtain ⟨cd, hcd⟩ : ∃ cd : Int, (if 8 ≤ P.tb.length then 34 else 0) = cd := ⟨_, rfl⟩
  have HCL : Hid (∀ v, Below w.heap.size w v → Calls Try.prog 66 #[.pointer (some ⟨b, 657, none⟩)] v fun e w' => e = .returned (.int .i64 cd) ∧ PStep w b S { P with bb := P.bb, tb := if 8 ≤ P.tb.length then P.tb else P.tb ++ [P.bb] } w') := fun v k => by
    obtain ⟨B, hla, hst⟩ := (h.below k).onD
    have HL := hide hla
    refine (checkB_all _ b 657 P.bb P.tb B HL.out HSM.out.2.2.2.1).mono ?_
    intro e w' hbs
    rw [hcd] at hbs
    obtain ⟨he, hps⟩ := hst _ _ _ _ _ hbs
    obtain ⟨S', k', p'⟩ := hps.out
    have k2 := ((Link.refl w b S).below k).trans k'
    exact ⟨he, k2.1, S', p', k2.2⟩
  rw [hcd]
  obtain ⟨PQ, hPQ⟩ : ∃ PQ : Pr, { P with bb := P.bb, tb := if 8 ≤ P.tb.length then P.tb else P.tb ++ [P.bb] } = PQ := ⟨_, rfl⟩
  rw [hPQ] at HCL ⊢
  clear hPQ hcd h hsm hp
  go_enter Try.func54, Try.ntmps54
  go_upto_region 3 with fail
  go_quiet (fail)
  go_upto_region 5 with fail
  go_quiet (fail)
  go_wp2_with (go_at_call 66; refine (HCL.out _ (by first | exact lec HBE.out (below_dn _ _) | exact lec (lec HBE.out (below_dn _ _)) (below_dn _ _))).mono ?_; rintro e w5 ⟨rfl, hps⟩; have HPS := hide hps; clear hps; simp only [])
  go_ret
  exact ⟨rfl, HPS.out⟩
set_option linter.unusedSimpArgs false in
set_option maxRecDepth 100000 in
set_option maxHeartbeats 8000000 in
theorem deepen_BcmL (w : World) (b : Nat) (P : Pr) (S : List Nat) (h : PP w b P S) (hsm : PSm P) (kd : Int) (a : Option Addr) (n cap : Nat) (pt gs ac tk am : Int) (hk : kd ≠ 6) (hp : pt = 0) :
    Calls Try.prog 54 #[.pointer (some ⟨b, 0, none⟩), .agg (opV kd a n cap 2 pt gs ac tk am).toArray] w fun e w' => e = .returned (.int .i64 (if P.sb = [] then 35 else 0)) ∧ PStep w b S { P with lb := P.lb, sb := P.sb.dropLast } w' := by
  have d1 : (kd == 6) = false := by simp [hk]
  subst hp
  have HSM := hide hsm
  have HP := hide h
  unfold opV
  have HBE := hide (be1 w (.cells #[.int .i64 kd, .slice a n cap, .int .u8 2, .int .i64 0, .int .u64 gs, .int .u8 ac, .int .u8 tk, .int .u64 am] 33))
  obtain ⟨cd, hcd⟩ : ∃ cd : Int, (if P.sb = [] then 35 else 0) = cd := ⟨_, rfl⟩
  have HCL : Hid (∀ v, Below w.heap.size w v → Calls Try.prog 67 #[.pointer (some ⟨b, 326, none⟩)] v fun e w' => e = .returned (.int .i64 cd) ∧ PStep w b S { P with lb := P.lb, sb := P.sb.dropLast } w') := fun v k => by
    obtain ⟨B, hla, hst⟩ := (h.below k).onB
    have HL := hide hla
    refine (commitL_all _ b 326 P.lb P.sb B HL.out HSM.out.2.1.2.2).mono ?_
    intro e w' hbs
    rw [hcd] at hbs
    obtain ⟨he, hps⟩ := hst _ _ _ _ _ hbs
    obtain ⟨S', k', p'⟩ := hps.out
    have k2 := ((Link.refl w b S).below k).trans k'
    exact ⟨he, k2.1, S', p', k2.2⟩
  rw [hcd]
  obtain ⟨PQ, hPQ⟩ : ∃ PQ : Pr, { P with lb := P.lb, sb := P.sb.dropLast } = PQ := ⟨_, rfl⟩
  rw [hPQ] at HCL ⊢
  clear hPQ hcd h hsm hk
  go_enter Try.func54, Try.ntmps54
  go_upto_region 3 with fail
  go_quiet (fail)
  go_upto_region 5 with fail
  go_quiet (fail)
  go_wp2_with (go_at_call 67; refine (HCL.out _ (by first | exact lec HBE.out (below_dn _ _) | exact lec (lec HBE.out (below_dn _ _)) (below_dn _ _))).mono ?_; rintro e w5 ⟨rfl, hps⟩; have HPS := hide hps; clear hps; simp only [])
  go_ret
  exact ⟨rfl, HPS.out⟩
set_option linter.unusedSimpArgs false in
set_option maxRecDepth 100000 in
set_option maxHeartbeats 8000000 in
theorem deepen_BcmB (w : World) (b : Nat) (P : Pr) (S : List Nat) (h : PP w b P S) (hsm : PSm P) (kd : Int) (a : Option Addr) (n cap : Nat) (pt gs ac tk am : Int) (hk : kd ≠ 6) (hp : pt ≠ 0) :
    Calls Try.prog 54 #[.pointer (some ⟨b, 0, none⟩), .agg (opV kd a n cap 2 pt gs ac tk am).toArray] w fun e w' => e = .returned (.int .i64 (if P.tb = [] then 35 else 0)) ∧ PStep w b S { P with bb := P.bb, tb := P.tb.dropLast } w' := by
  have d1 : (kd == 6) = false := by simp [hk]
  have d2 : (pt == 0) = false := by simp [hp]
  have HSM := hide hsm
  have HP := hide h
  unfold opV
  have HBE := hide (be1 w (.cells #[.int .i64 kd, .slice a n cap, .int .u8 2, .int .i64 pt, .int .u64 gs, .int .u8 ac, .int .u8 tk, .int .u64 am] 33))
  obtain ⟨cd, hcd⟩ : ∃ cd : Int, (if P.tb = [] then 35 else 0) = cd := ⟨_, rfl⟩
  have HCL : Hid (∀ v, Below w.heap.size w v → Calls Try.prog 68 #[.pointer (some ⟨b, 657, none⟩)] v fun e w' => e = .returned (.int .i64 cd) ∧ PStep w b S { P with bb := P.bb, tb := P.tb.dropLast } w') := fun v k => by
    obtain ⟨B, hla, hst⟩ := (h.below k).onD
    have HL := hide hla
    refine (commitB_all _ b 657 P.bb P.tb B HL.out HSM.out.2.2.2.1.2.2).mono ?_
    intro e w' hbs
    rw [hcd] at hbs
    obtain ⟨he, hps⟩ := hst _ _ _ _ _ hbs
    obtain ⟨S', k', p'⟩ := hps.out
    have k2 := ((Link.refl w b S).below k).trans k'
    exact ⟨he, k2.1, S', p', k2.2⟩
  rw [hcd]
  obtain ⟨PQ, hPQ⟩ : ∃ PQ : Pr, { P with bb := P.bb, tb := P.tb.dropLast } = PQ := ⟨_, rfl⟩
  rw [hPQ] at HCL ⊢
  clear hPQ hcd h hsm hk hp
  go_enter Try.func54, Try.ntmps54
  go_upto_region 3 with fail
  go_quiet (fail)
  go_upto_region 5 with fail
  go_quiet (fail)
  go_wp2_with (go_at_call 68; refine (HCL.out _ (by first | exact lec HBE.out (below_dn _ _) | exact lec (lec HBE.out (below_dn _ _)) (below_dn _ _))).mono ?_; rintro e w5 ⟨rfl, hps⟩; have HPS := hide hps; clear hps; simp only [])
  go_ret
  exact ⟨rfl, HPS.out⟩
/-- deepen -/
theorem deepen_any (w : World) (b : Nat) (P : Pr) (S : List Nat) (h : PP w b P S) (hsm : PSm P) (kd : Int) (a : Option Addr) (n cap : Nat) (ch pt gs ac tk am : Int) :
    Calls Try.prog 54 #[.pointer (some ⟨b, 0, none⟩), .agg (opV kd a n cap ch pt gs ac tk am).toArray] w fun e w' => e = .returned (.int .i64 (dpC P kd ch pt)) ∧ PStep w b S (dpS P kd ch pt) w' := by
  by_cases hc : ch = 1 ∨ ch = 2
  · unfold dpC dpS
    have hcc : ¬ ¬ (ch = 1 ∨ ch = 2) := fun z => z hc
    rw [if_neg hcc, if_neg hcc]
    clear hcc
    rcases hc with rfl | rfl
    · by_cases hk : kd = 6
      · rw [if_pos hk, if_pos hk]
        by_cases hp : pt = 0
        · rw [if_pos hp, if_pos hp]; exact deepen_AckL w b P S h hsm kd a n cap pt gs ac tk am hk hp
        · rw [if_neg hp, if_neg hp]; exact deepen_AckB w b P S h hsm kd a n cap pt gs ac tk am hk hp
      · rw [if_neg hk, if_neg hk]
        by_cases hp : pt = 0
        · rw [if_pos hp, if_pos hp]; exact deepen_AcmL w b P S h hsm kd a n cap pt gs ac tk am hk hp
        · rw [if_neg hp, if_neg hp]; exact deepen_AcmB w b P S h hsm kd a n cap pt gs ac tk am hk hp
    · by_cases hk : kd = 6
      · rw [if_pos hk, if_pos hk]
        by_cases hp : pt = 0
        · rw [if_pos hp, if_pos hp]; exact deepen_BckL w b P S h hsm kd a n cap pt gs ac tk am hk hp
        · rw [if_neg hp, if_neg hp]; exact deepen_BckB w b P S h hsm kd a n cap pt gs ac tk am hk hp
      · rw [if_neg hk, if_neg hk]
        by_cases hp : pt = 0
        · rw [if_pos hp, if_pos hp]; exact deepen_BcmL w b P S h hsm kd a n cap pt gs ac tk am hk hp
        · rw [if_neg hp, if_neg hp]; exact deepen_BcmB w b P S h hsm kd a n cap pt gs ac tk am hk hp
  · unfold dpC dpS
    rw [if_pos hc, if_pos hc]
    refine (deepen_bad w b kd a n cap ch pt gs ac tk am hc).mono ?_
    rintro e w' ⟨he, hb⟩
    exact ⟨he, PStep.of h hb⟩
end Go.Proofs.Qxb6500784a
