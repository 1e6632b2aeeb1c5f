import Derived.Test.Qxb6500773aGreatOd
namespace Go.Proofs.Qxb6500773aGreat
open Go.RowKit

set_option maxRecDepth 100000 in
def fr25 (m q t o bt g np pc i cl : Nat) (d : Bool) (a1 : Option Addr) (c1 : Nat) (v1 : Value) (rs : Nat → Value) (u19 u706 u707 u708 u709 u710 u711 u712 u713 u714 u715 u716 u717 v705 : Value) : Array Value := #[Value.pointer (some ⟨m, 0, none⟩), v1, undef, Value.pointer (some ⟨q, 0, none⟩), Value.pointer (some ⟨t, 0, none⟩), Value.pointer (some ⟨o, 0, none⟩), undef, undef, undef, undef, undef, undef, undef, undef, undef, undef, undef, Value.pointer (some ⟨bt, 0, none⟩), undef, u19, Value.pointer (some ⟨q, 0, none⟩), Value.int IntKind.i64 25, Value.bool false, Value.bool false, undef, undef, undef, undef, undef, undef, undef, undef, undef, undef, Value.bool false, Value.bool false, undef, undef, undef, undef, undef, undef, undef, undef, undef, undef, undef, undef, undef, undef, undef, undef, undef, undef, undef, undef, undef, undef, undef, undef, undef, undef, undef, undef, undef, undef, Value.bool false, Value.bool false, undef, undef, undef, undef, undef, undef, undef, undef, undef, undef, undef, undef, undef, undef, undef, undef, undef, undef, undef, undef, undef, undef, undef, Value.bool false, Value.bool false, undef, undef, undef, undef, undef, undef, undef, undef, undef, undef, undef, undef, undef, undef, undef, undef, undef, undef, undef, undef, undef, undef, undef, undef, undef, undef, undef, undef, undef, undef, undef, undef, undef, undef, undef, undef, undef, undef, undef, undef, undef, undef, undef, undef, undef, undef, undef, undef, undef, undef, undef, undef, undef, undef, undef, undef, undef, undef, undef, undef, undef, undef, undef, undef, undef, undef, undef, undef, undef, undef, undef, undef, undef, undef, Value.bool false, Value.bool false, undef, undef, undef, undef, undef, undef, undef, undef, undef, undef, undef, undef, undef, undef, undef, undef, undef, undef, undef, undef, undef, undef, undef, undef, undef, Value.bool false, Value.bool false, undef, undef, undef, undef, undef, undef, undef, undef, undef, undef, undef, undef, undef, undef, undef, undef, undef, undef, undef, undef, undef, undef, undef, undef, undef, undef, Value.bool false, Value.bool false, undef, undef, undef, Value.bool false, Value.bool false, undef, undef, undef, undef, undef, undef, undef, undef, undef, undef, undef, undef, undef, undef, undef, undef, undef, undef, undef, undef, undef, undef, undef, undef, undef, undef, undef, undef, Value.bool false, Value.bool false, undef, undef, undef, undef, undef, undef, undef, undef, undef, undef, undef, undef, undef, undef, undef, undef, undef, undef, undef, undef, undef, undef, undef, undef, undef, undef, undef, undef, undef, undef, undef, undef, Value.bool false, Value.bool false, undef, undef, undef, undef, undef, undef, undef, undef, undef, undef, undef, undef, undef, undef, undef, undef, undef, undef, undef, undef, undef, undef, undef, undef, undef, undef, undef, undef, undef, undef, undef, undef, undef, undef, undef, undef, undef, Value.bool false, Value.bool false, undef, undef, undef, undef, undef, undef, undef, undef, undef, undef, undef, undef, undef, undef, undef, undef, undef, undef, undef, undef, undef, undef, undef, Value.bool false, Value.bool false, undef, undef, undef, undef, undef, undef, undef, undef, undef, undef, Value.bool false, Value.bool false, undef, undef, undef, undef, undef, undef, undef, undef, undef, undef, undef, undef, undef, undef, undef, undef, undef, undef, undef, Value.bool false, Value.bool false, undef, undef, undef, undef, undef, undef, undef, Value.bool false, Value.bool false, undef, undef, undef, undef, undef, undef, undef, undef, undef, undef, undef, undef, undef, undef, undef, undef, undef, undef, undef, undef, undef, undef, undef, undef, undef, undef, undef, undef, Value.bool false, Value.bool false, undef, undef, undef, undef, undef, undef, Value.bool false, Value.bool false, undef, undef, undef, undef, undef, undef, undef, undef, undef, undef, undef, undef, undef, undef, undef, undef, undef, undef, undef, undef, undef, undef, undef, undef, undef, undef, undef, undef, Value.bool false, Value.bool false, undef, undef, undef, undef, undef, undef, undef, undef, undef, undef, undef, undef, undef, undef, undef, undef, undef, undef, undef, undef, undef, undef, undef, undef, undef, undef, undef, undef, Value.bool false, Value.bool false, undef, undef, undef, undef, undef, undef, undef, undef, undef, undef, undef, undef, undef, undef, undef, undef, undef, undef, undef, undef, undef, Value.bool false, Value.bool false, undef, undef, undef, undef, undef, undef, Value.bool false, Value.bool false, undef, undef, undef, undef, undef, undef, undef, undef, undef, undef, undef, undef, undef, undef, undef, undef, undef, undef, undef, undef, undef, undef, undef, undef, undef, undef, undef, undef, undef, undef, undef, undef, Value.bool false, Value.bool false, undef, undef, undef, undef, undef, undef, undef, undef, undef, Value.bool false, Value.bool false, undef, undef, undef, undef, undef, undef, undef, undef, undef, undef, undef, undef, undef, undef, undef, undef, undef, undef, undef, undef, undef, undef, undef, undef, undef, undef, undef, undef, undef, undef, undef, undef, undef, undef, undef, undef, undef, undef, undef, undef, undef, undef, undef, undef, undef, undef, undef, undef, undef, undef, undef, undef, undef, undef, undef, undef, undef, undef, undef, Value.bool false, Value.bool false, undef, undef, undef, undef, undef, undef, undef, undef, undef, undef, undef, undef, undef, undef, undef, undef, undef, undef, undef, undef, undef, undef, undef, undef, undef, undef, undef, undef, Value.bool false, Value.bool false, undef, undef, undef, undef, undef, undef, undef, undef, undef, undef, undef, undef, undef, undef, undef, undef, undef, undef, undef, undef, undef, undef, undef, undef, undef, undef, undef, Value.bool true, Value.bool true, Value.pointer (some ⟨m, 0, none⟩), Value.pointer (some ⟨m, 0, none⟩), Value.pointer (some ⟨m, 3, none⟩), Value.slice (some ⟨g, 0, none⟩) np pc, Value.int IntKind.i64 ((np : Nat) : Int), Value.int IntKind.i64 ((i : Nat) : Int), Value.bool true, Value.pointer (some ⟨g, i * 2, none⟩), Value.agg #[Value.bool d, Value.slice a1 cl c1], Value.pointer (some ⟨bt, 1, none⟩), Value.slice a1 cl c1, Value.int IntKind.i64 ((cl : Nat) : Int), v705, u706, u707, u708, u709, u710, u711, u712, u713, u714, u715, u716, u717, rs 718, rs 719, rs 720, rs 721, rs 722, rs 723, rs 724, rs 725, rs 726, rs 727, rs 728, undef, undef, undef, undef, undef, undef, undef, undef, undef, undef, undef, undef, undef, undef, undef, undef, undef, undef, undef, undef, undef, undef, undef, undef, undef, undef, undef, undef, undef, undef, undef, undef, undef, undef, undef, undef, undef, undef, undef, undef, undef, undef, undef, undef, undef, undef, undef, undef, undef, undef, undef, undef, undef, undef, undef, undef, undef, undef, undef, undef, undef, undef, undef, undef, undef, undef, undef, undef, undef, undef, undef, undef, undef, undef, undef, undef, undef, undef, undef, undef, undef, undef, undef, undef, undef, undef, undef, undef, undef, undef, undef, undef, undef, undef, undef, undef]
/-- the loop of a block -/
def loopOf (n : Nat) : Code → Option Code
  | .block k c => if k = n then (match c with | .loop b => some b | _ => loopOf n c) else loopOf n c
  | .seq a b => match loopOf n a with
    | some c => some c
    | none => loopOf n b
  | .loop c => loopOf n c
  | .scope c => loopOf n c
  | .cond _ a b => match loopOf n a with
    | some c => some c
    | none => loopOf n b
  | _ => none
theorem meas_lt {n i : Nat} {x y : Value} (hx : x = .int .i64 ((i + 1 : Nat) : Int)) (hy : y = .int .i64 (i : Int)) (h : i < n) : n - (intOf x).toNat < n - (intOf y).toNat := by
  subst hx hy
  simp only [intOf]
  omega
noncomputable def ib25 : Code := ((Tryz.f10.body.bind (loopOf 7)).getD .skip)
set_option linter.unusedSimpArgs false in
set_option linter.unusedVariables false in
set_option maxRecDepth 100000 in
set_option maxHeartbeats 32000000 in
/-- one round of the inner loop -/
theorem in25 (w wj : World) (B m z q t o bt g np pc i cl j c1 : Nat) (d : Bool) (a1 : Option Addr) (X : Nat → Prop) (V : Nat → Value) (S : Nat → Nat → Prop) (s : Mst) (R : Nat → Prop) (va : Int) (la : Option Addr) (ln lc : Nat) (VX : Nat → Int) (ta : Option Addr) (tn tc : Nat) (VT : Nat → Int) (N0 M0 : Int) (C : List Int)
    (HC : Hid (s.P[i]? = some (d, C))) (HXC : Hid (∀ x ∈ C, DI x)) (HVp : Hid (V 1 = Value.slice (some ⟨g, 0, none⟩) np pc)) (HGO : Hid (g ≠ o)) (HBO : Hid (bt ≠ o)) (HCL : Hid (C.length = cl)) (HCB : Hid (cl ≤ 65536))
    (HSj : Hid (MW w wj R B m q t o X V S s ⟨25, va, la, ln, lc, VX, ta, tn, tc, VT⟩ { ob0 with n := mxA N0 (C.take j), m := M0 } (.slice none 0 0))) (HCj : Hid (wj.cell? ⟨bt, 0, none⟩ = some (.bool d) ∧ wj.cell? ⟨bt, 1, none⟩ = some (.slice a1 cl c1) ∧ wj.cell? ⟨g, i * 2 + 1, none⟩ = some (.slice a1 cl c1))) (hjt : j < cl) (v1 : Value) (rs : Nat → Value) (u19 u706 u707 u708 u709 u710 u711 u712 u713 u714 u715 u716 u717 : Value) (J : Act → World → Prop) (QQ : Exit → Act → World → Prop)
    (hJ : ∀ (u19 u706 u707 u708 u709 u710 u711 u712 u713 u714 u715 u716 u717 : Value) (w' : World), Hid (MW w w' R B m q t o X V S s ⟨25, va, la, ln, lc, VX, ta, tn, tc, VT⟩ { ob0 with n := mxA N0 (C.take (j + 1)), m := M0 } (.slice none 0 0)) → Hid (w'.cell? ⟨bt, 0, none⟩ = some (.bool d) ∧ w'.cell? ⟨bt, 1, none⟩ = some (.slice a1 cl c1) ∧ w'.cell? ⟨g, i * 2 + 1, none⟩ = some (.slice a1 cl c1)) → J ⟨fr25 m q t o bt g np pc i cl d a1 c1 v1 rs u19 u706 u707 u708 u709 u710 u711 u712 u713 u714 u715 u716 u717 (.int .i64 ((j + 1 : Nat) : Int)), []⟩ w') :
    Code.wp Tryz.prog ib25 (Exit.then J QQ) ⟨fr25 m q t o bt g np pc i cl d a1 c1 v1 rs u19 u706 u707 u708 u709 u710 u711 u712 u713 u714 u715 u716 u717 (.int .i64 (j : Int)), []⟩ wj := by
  have HJ := hide hJ
  clear hJ
  conv => arg 2; whnf
  unfold fr25
  have hw2 : wrap64 ((j : Int) + 1) = ((j + 1 : Nat) : Int) := by have := HCB.out; clear HC HSj HCj HJ; unfold wrap64; omega
  obtain ⟨nn, hnn⟩ : ∃ z, mxA N0 (C.take j) = z := ⟨_, rfl⟩
  rw [hnn] at HSj
  have HNN := hide hnn
  clear hnn
  have hjb : decide ((j : Int) < (cl : Int)) = true := decide_eq_true (by omega)
  have hji : (j : Int) < (cl : Int) := by omega
  obtain ⟨x, hx⟩ : ∃ x, C[j]? = some x := ⟨_, List.getElem?_eq_getElem (by rw [HCL.out]; exact hjt)⟩
  have HXM := hide (HXC.out x (List.mem_of_getElem? hx))
  have hil : IL wj a1 C := by
    obtain ⟨g', a', c', e', _, y1, hl, _⟩ := HSj.out.elemP HVp.out HC.out
    injection e' with e'
    injection e' with e1 _ _
    subst e1
    have z := y1.symm.trans HCj.out.2.2
    injection z with z
    injection z with z _ _
    rw [← z]
    exact hl
  obtain ⟨gl, ol, ea, x0⟩ := hil j x hx
  clear hil
  subst ea
  obtain ⟨ax, hax⟩ : ∃ z, absP x = z := ⟨_, rfl⟩
  have HNX : Hid (mxA N0 (C.take (j + 1)) = if nn < ax then ax else nn) := by show _ = _; rw [mxA_snoc N0 C hx, HNN.out, hax]
  clear hx
  have HVO : Hid (∀ w, Calls Tryz.prog 76 #[.int .i64 x] w fun e w' => e = .returned (.int .i64 ax) ∧ w' = w) := fun w => by have hm := HXM.out; unfold DI at hm; have := varOf_any w x (by omega); rw [hax] at this; exact this
  clear hax
  have o3 : wj.cell? ⟨o, 3, none⟩ = some (.int .i64 nn) := HSj.out.sc.o3
  by_cases hg : nn < ax
  · have hgb : decide (nn < ax) = true := decide_eq_true hg
    go_upto_region 134 with fail
    go_quiet (first | (go_at_call 76; refine Calls.quiet_of_same (HVO.out _)))
    rename_i nq
    have HSk := hide (HSj.out.low (belN _ nq))
    have HCk : Hid ((World.drewN wj nq).cell? ⟨bt, 0, none⟩ = some (.bool d) ∧ (World.drewN wj nq).cell? ⟨bt, 1, none⟩ = some (.slice (some ⟨gl, ol, none⟩) cl c1) ∧ (World.drewN wj nq).cell? ⟨g, i * 2 + 1, none⟩ = some (.slice (some ⟨gl, ol, none⟩) cl c1)) := ⟨(Ex.of (S := fun _ => False) (belN _ nq)).cell (fun z => z) HCj.out.1, (Ex.of (S := fun _ => False) (belN _ nq)).cell (fun z => z) HCj.out.2.1, (Ex.of (S := fun _ => False) (belN _ nq)).cell (fun z => z) HCj.out.2.2⟩
    clear HSj HCj o3 x0 hjb hji hgb
    generalize World.drewN wj nq = wk at *
    have o3 : wk.cell? ⟨o, 3, none⟩ = some (.int .i64 nn) := HSk.out.sc.o3
    have hof := HSk.out.sc.of
    go_upto_region 135 with fail
    have cc := hide (HVO.out wk)
    go_wp2_with fail
    refine cc.out.mono ?_
    rintro e wz ⟨rfl, hw⟩
    rw [hw]
    clear hw wz
    clear cc
    go_upto_region 136 with fail
    have HSm := hide (HSk.out.on ax)
    have HCm : Hid ((wk.setCell ⟨o, 3, none⟩ (.int .i64 ax)).cell? ⟨bt, 0, none⟩ = some (.bool d) ∧ (wk.setCell ⟨o, 3, none⟩ (.int .i64 ax)).cell? ⟨bt, 1, none⟩ = some (.slice (some ⟨gl, ol, none⟩) cl c1) ∧ (wk.setCell ⟨o, 3, none⟩ (.int .i64 ax)).cell? ⟨g, i * 2 + 1, none⟩ = some (.slice (some ⟨gl, ol, none⟩) cl c1)) := ⟨set_oth HCk.out.1 (.inl HBO.out), set_oth HCk.out.2.1 (.inl HBO.out), set_oth HCk.out.2.2 (.inl HGO.out)⟩
    clear HSk HCk o3 hof
    generalize wk.setCell ⟨o, 3, none⟩ (.int .i64 ax) = wm at *
    go_wp2
    refine HJ.out _ _ _ _ _ _ _ _ _ _ _ _ _ _ ?rel ?rel2
    case rel => (rw [HNX.out, if_pos hg]; exact HSm)
    case rel2 => exact HCm
  · have hgb : decide (nn < ax) = false := decide_eq_false hg
    go_upto_region 134 with fail
    go_quiet (first | (go_at_call 76; refine Calls.quiet_of_same (HVO.out _)))
    rename_i nq
    have HSk := hide (HSj.out.low (belN _ nq))
    have HCk : Hid ((World.drewN wj nq).cell? ⟨bt, 0, none⟩ = some (.bool d) ∧ (World.drewN wj nq).cell? ⟨bt, 1, none⟩ = some (.slice (some ⟨gl, ol, none⟩) cl c1) ∧ (World.drewN wj nq).cell? ⟨g, i * 2 + 1, none⟩ = some (.slice (some ⟨gl, ol, none⟩) cl c1)) := ⟨(Ex.of (S := fun _ => False) (belN _ nq)).cell (fun z => z) HCj.out.1, (Ex.of (S := fun _ => False) (belN _ nq)).cell (fun z => z) HCj.out.2.1, (Ex.of (S := fun _ => False) (belN _ nq)).cell (fun z => z) HCj.out.2.2⟩
    clear HSj HCj o3 x0 hjb hji
    generalize World.drewN wj nq = wk at *
    go_wp2
    refine HJ.out _ _ _ _ _ _ _ _ _ _ _ _ _ _ ?rel ?rel2
    case rel => (rw [HNX.out, if_neg (by omega)]; exact HSk)
    case rel2 => exact HCk
end Go.Proofs.Qxb6500773aGreat
