import Derived.Test.Qxb6500773aGreatTu1
import Derived.Test.Qxb6500773aGreatTu2
import Derived.Test.Qxb6500773aGreatTu3
import Derived.Test.Qxb6500773aGreatTu4
import Derived.Test.Qxb6500773aGreatTu5
import Derived.Test.Qxb6500773aGreatTu6
import Derived.Test.Qxb6500773aGreatTu7
namespace Go.Proofs.Qxb6500773aGreat
open Go.RowKit

/-- one step, plain -/
inductive StR (s : St) (a : Int) (X : List Int) (T : Nat → Int) (n : Nat) : Int → St → Ob → Prop where
  | k0 : StR s a X T n 0 ({ ({ ({ (s : St) with f := ⟨0, [], []⟩ } : St) with a := ⟨if s.a.k = 0 then s.a.k else 0, if s.a.k = 0 then s.a.V else List.replicate s.a.V.length 0⟩ } : St) with p := ⟨[], [], []⟩ }) (ob0)
  | k1 : StR s a X T n 1 ({ s with f := ⟨(if 0 ≤ a ∧ a ≤ 16777215 ∧ s.f.nv < a then a else s.f.nv), s.f.L, s.f.E⟩, a := ⟨s.a.k, growP s.a.V a⟩ }) ({ ob0 with er := (if 0 ≤ a ∧ a ≤ 16777215 then 0 else 3), n := (if 0 ≤ a ∧ a ≤ 16777215 ∧ s.f.nv < a then a else s.f.nv) })
  | k2 : StR s a X T n 2 ({ (s : St) with f := ⟨if s.f.nv < 16777215 then s.f.nv + 1 else s.f.nv, s.f.L, s.f.E⟩ }) ({ ob0 with er := if s.f.nv < 16777215 then 0 else 3, n := if s.f.nv < 16777215 then s.f.nv + 1 else 0 })
  | k3 : StR s a X T n 3 (if ncE X = 0 then { s with f := ⟨mxV s.f.nv (mxP (X.map fun d => (fromP d).1)), s.f.L ++ (X.map fun d => (fromP d).1), s.f.E ++ [((s.f.L ++ (X.map fun d => (fromP d).1)).length : Int)]⟩ } else s) (if ncE X = 0 then { ob0 with n := s.f.E.length, m := mxV s.f.nv (mxP (X.map fun d => (fromP d).1)) } else { ob0 with er := ncE X, n := -1, m := s.f.nv })
  | k4 : StR s a X T n 4 (if (fromP a).2 = 0 then { s with a := ⟨setN s.a.V s.a.k (fromP a).1, setP s.a.V (fromP a).1⟩ } else s) (if (fromP a).2 = 0 then { ob0 with er := (fromP a).2, n := setN s.a.V s.a.k (fromP a).1 } else { ob0 with er := (fromP a).2, n := s.a.k })
  | k5 : StR s a X T n 5 (if (1 ≤ a ∧ a ≤ 16777215) then { s with a := ⟨if varP s.a.V a = 0 then s.a.k else s.a.k - 1, if varP s.a.V a = 0 then s.a.V else s.a.V.set a.toNat 0⟩ } else s) (if (1 ≤ a ∧ a ≤ 16777215) then { ob0 with n := if varP s.a.V a = 0 then s.a.k else s.a.k - 1 } else { ob0 with er := 3, n := s.a.k })
  | k6 : StR s a X T n 6 ({ (s : St) with a := ⟨if s.a.k = 0 then s.a.k else 0, if s.a.k = 0 then s.a.V else List.replicate s.a.V.length 0⟩ }) (ob0)
  | k7 : StR s a X T n 7 (s) (if (fromP a).2 = 0 then { ob0 with er := (fromP a).2, n := lvP s.a.V (fromP a).1, m := (fromP a).1 } else { ob0 with er := (fromP a).2 })
  | k8 : StR s a X T n 8 (s) ({ ob0 with er := (ecP s.a.V s.f.L s.f.E a).2, n := (ecP s.a.V s.f.L s.f.E a).1 })
  | k9 : StR s a X T n 9 (s) ({ ob0 with er := (scP s.a.V s.f.L s.f.E a).2.2, n := (scP s.a.V s.f.L s.f.E a).1, m := dimP (scP s.a.V s.f.L s.f.E a).2.1 })
  | k10 : StR s a X T n 10 (s) ({ ob0 with n := feP s.a.V s.f.L s.f.E 0 s.f.E.length 1, m := if decide (ffP (fun v => v != 1) s.a.V s.f.L s.f.E 0 s.f.E.length < 0) = true then 1 else 0 })
  | k11 : StR s a X T n 11 (s) ({ ob0 with n := ffP (fun v => v == -1) s.a.V s.f.L s.f.E 0 s.f.E.length })
  | k12 : StR s a X T n 12 (s) (if ncE X = 0 then { ob0 with n := if (nfP (X.map fun d => (fromP d).1)).2 = true then 1 else 0, X := clT (nfP (X.map fun d => (fromP d).1)).1 } else { ob0 with er := ncE X })
  | k13 : StR s a X T n 13 (s) ({ ob0 with X := clT (trueP s.a.V (if s.a.V.length = 0 then 1 else s.a.V.length)) })
  | k14 (s' : St) (b' : Ob) (h : DmR T n s s' b') : StR s a X T n 14 s' b'
  | k15 : StR s a X T n 15 (s) ({ ob0 with X := foT s.f.nv s.f.L s.f.E })
  | k16 : StR s a X T n 16 (if ncE X = 0 then { s with p := ⟨s.p.L ++ (X.map fun d => (fromP d).1), s.p.E ++ [((s.p.L ++ (X.map fun d => (fromP d).1)).length : Int)], s.p.D ++ [false]⟩ } else s) (if ncE X = 0 then { ob0 with n := ((s.p.E.length + 1 : Nat) : Int) } else { ob0 with er := ncE X, n := s.p.E.length })
  | k17 : StR s a X T n 17 (if ncE X = 0 then { s with p := ⟨s.p.L ++ (X.map fun d => (fromP d).1), s.p.E ++ [((s.p.L ++ (X.map fun d => (fromP d).1)).length : Int)], s.p.D ++ [true]⟩ } else s) (if ncE X = 0 then { ob0 with n := ((s.p.E.length + 1 : Nat) : Int) } else { ob0 with er := ncE X, n := s.p.E.length })
  | k18 (s' : St) (b' : Ob) (h : DrR T n s s' b') : StR s a X T n 18 s' b'
  | k19 : StR s a X T n 19 (s) ({ ob0 with X := drT s.p.L s.p.E s.p.D s.p.E.length })
  | k20 : StR s a X T n 20 (if ncE X = 0 then { s with a := ⟨setsN s.a.V s.a.k (X.map fun d => (fromP d).1), setsP s.a.V (X.map fun d => (fromP d).1)⟩ } else s) (if ncE X = 0 then { ob0 with n := setsN s.a.V s.a.k (X.map fun d => (fromP d).1) } else { ob0 with er := ncE X, n := s.a.k })
  | k21 : StR s a X T n 21 (s) ({ ob0 with n := if totalP s.a.V a = true then 1 else 0 })
  | k22 : StR s a X T n 22 (s) (if ncE X = 0 then (if inP a s.f.E.length = true then { ob0 with n := cmpP (X.map fun d => (fromP d).1) (clZ s.f.L s.f.E a), m := if ((X.map fun d => (fromP d).1) == clZ s.f.L s.f.E a) = true then 1 else 0 } else { ob0 with er := 4 }) else { ob0 with er := ncE X })
  | k23 : StR s a X T n 23 (s) ({ ob0 with n := if inP a s.f.E.length = true then 1 else 0, X := clT (clZ s.f.L s.f.E a) })
  | k24 : StR s a X T n 24 (s) ({ ob0 with n := if inP a s.p.E.length = true then 1 else 0, X := stT (dlZ s.p.E s.p.D a) (clZ s.p.L s.p.E a) })
  | k25 : StR s a X T n 25 (s) ({ ob0 with n := mxP s.p.L, m := if aeP s.p.L s.p.E s.p.D 0 s.p.E.length = true then 1 else 0 })
  | k26 : StR s a X T n 26 ({ s with sf := ⟨s.f.nv, s.f.L, s.f.E⟩, sa := ⟨s.a.k, s.a.V⟩, sp := ⟨s.p.L, s.p.E, s.p.D⟩ }) (ob0)
  | k27 : StR s a X T n 27 ({ s with f := ⟨s.sf.nv, s.sf.L, s.sf.E⟩, a := ⟨s.sa.k, s.sa.V⟩, p := ⟨s.sp.L, s.sp.E, s.sp.D⟩ }) (ob0)
  | k28 : StR s a X T n 28 (s) ({ ob0 with n := 4 * (if (s.f.nv == s.sf.nv && (s.f.E == s.sf.E && s.f.L == s.sf.L)) = true then 1 else 0) + 2 * (if eqaP s.a.V s.sa.V s.a.k s.sa.k = true then 1 else 0) + (if (s.p.E == s.sp.E && s.p.L == s.sp.L && s.p.D == s.sp.D) = true then 1 else 0), m := 4 * (if (s.sf.nv == s.f.nv && (s.sf.E == s.f.E && s.sf.L == s.f.L)) = true then 1 else 0) + 2 * (if eqaP s.sa.V s.a.V s.sa.k s.a.k = true then 1 else 0) + (if (s.sp.E == s.p.E && s.sp.L == s.p.L && s.sp.D == s.p.D) = true then 1 else 0) })
  | oth (kd : Int) (h : ¬ (0 ≤ kd ∧ kd ≤ 28)) : StR s a X T n kd s ob0
/-- cnflaw.realBench.step -/
theorem step_all (w : World) (B r z : Nat) (P : Nat → Nat) (S : Nat → Nat → Prop) (s : St) (h : BN w B r P S (QS B s)) (hB : B ≤ w.heap.size) (hok : StOk z s) (hz : z ≤ 65536) (v : OpV) (ha : -9223372036854775808 ≤ v.a ∧ v.a ≤ 9223372036854775807) (X : List Int) (hX : X.length = v.ln) (hIL : ∀ w', Ex (fun k => B ≤ k) w w' → IL w' v.la X) (hBT : ∀ w', Ex (fun k => B ≤ k) w w' → BT w' v.ta v.tn v.T) (hln : v.ln ≤ 65536) (htn : v.tn ≤ 65536) :
    Calls Tryz.prog 9 #[.pointer (some ⟨r, 0, none⟩), opZ v] w (fun e w' => ∃ s' b', StR s v.a X v.T v.tn v.kd s' b' ∧ SpPost w (fp r S) B r s' b' e w') := by
  by_cases hk : 0 ≤ v.kd ∧ v.kd ≤ 28
  · obtain ⟨j, hj⟩ : ∃ j : Nat, v.kd = (j : Int) := ⟨v.kd.toNat, by omega⟩
    have hj28 : j ≤ 28 := by omega
    rw [hj]
    match j, hj, hj28 with
    | 0, hj, _ => exact (step_0 w B r z P S s h hB hok hz v hj ha).mono fun e w' hp => ⟨_, _, .k0, hp⟩
    | 1, hj, _ => exact (step_1 w B r z P S s h hB hok hz v hj ha).mono fun e w' hp => ⟨_, _, .k1, hp⟩
    | 2, hj, _ => exact (step_2 w B r z P S s h hB hok hz v hj ha).mono fun e w' hp => ⟨_, _, .k2, hp⟩
    | 3, hj, _ => exact (step_3 w B r z P S s h hB hok hz v hj ha X hX hIL hBT hln htn).mono fun e w' hp => ⟨_, _, .k3, hp⟩
    | 4, hj, _ => exact (step_4 w B r z P S s h hB hok hz v hj ha).mono fun e w' hp => ⟨_, _, .k4, hp⟩
    | 5, hj, _ => exact (step_5 w B r z P S s h hB hok hz v hj ha).mono fun e w' hp => ⟨_, _, .k5, hp⟩
    | 6, hj, _ => exact (step_6 w B r z P S s h hB hok hz v hj ha).mono fun e w' hp => ⟨_, _, .k6, hp⟩
    | 7, hj, _ => exact (step_7 w B r z P S s h hB hok hz v hj ha).mono fun e w' hp => ⟨_, _, .k7, hp⟩
    | 8, hj, _ => exact (step_8 w B r z P S s h hB hok hz v hj ha).mono fun e w' hp => ⟨_, _, .k8, hp⟩
    | 9, hj, _ => exact (step_9 w B r z P S s h hB hok hz v hj ha).mono fun e w' hp => ⟨_, _, .k9, hp⟩
    | 10, hj, _ => exact (step_10 w B r z P S s h hB hok hz v hj ha).mono fun e w' hp => ⟨_, _, .k10, hp⟩
    | 11, hj, _ => exact (step_11 w B r z P S s h hB hok hz v hj ha).mono fun e w' hp => ⟨_, _, .k11, hp⟩
    | 12, hj, _ => exact (step_12 w B r z P S s h hB hok hz v hj ha X hX hIL hBT hln htn).mono fun e w' hp => ⟨_, _, .k12, hp⟩
    | 13, hj, _ => exact (step_13 w B r z P S s h hB hok hz v hj ha).mono fun e w' hp => ⟨_, _, .k13, hp⟩
    | 14, hj, _ =>
      refine (step_14 w B r z P S s h hB hok hz v hj ha X hX hIL hBT hln htn).mono ?_
      rintro e w' ⟨s', b', h1, h2⟩
      exact ⟨s', b', .k14 s' b' h1, h2⟩
    | 15, hj, _ => exact (step_15 w B r z P S s h hB hok hz v hj ha).mono fun e w' hp => ⟨_, _, .k15, hp⟩
    | 16, hj, _ => exact (step_16 w B r z P S s h hB hok hz v hj ha X hX hIL hBT hln htn).mono fun e w' hp => ⟨_, _, .k16, hp⟩
    | 17, hj, _ => exact (step_17 w B r z P S s h hB hok hz v hj ha X hX hIL hBT hln htn).mono fun e w' hp => ⟨_, _, .k17, hp⟩
    | 18, hj, _ =>
      refine (step_18 w B r z P S s h hB hok hz v hj ha X hX hIL hBT hln htn).mono ?_
      rintro e w' ⟨s', b', h1, h2⟩
      exact ⟨s', b', .k18 s' b' h1, h2⟩
    | 19, hj, _ => exact (step_19 w B r z P S s h hB hok hz v hj ha).mono fun e w' hp => ⟨_, _, .k19, hp⟩
    | 20, hj, _ => exact (step_20 w B r z P S s h hB hok hz v hj ha X hX hIL hBT hln htn).mono fun e w' hp => ⟨_, _, .k20, hp⟩
    | 21, hj, _ => exact (step_21 w B r z P S s h hB hok hz v hj ha).mono fun e w' hp => ⟨_, _, .k21, hp⟩
    | 22, hj, _ => exact (step_22 w B r z P S s h hB hok hz v hj ha X hX hIL hBT hln htn).mono fun e w' hp => ⟨_, _, .k22, hp⟩
    | 23, hj, _ => exact (step_23 w B r z P S s h hB hok hz v hj ha).mono fun e w' hp => ⟨_, _, .k23, hp⟩
    | 24, hj, _ => exact (step_24 w B r z P S s h hB hok hz v hj ha).mono fun e w' hp => ⟨_, _, .k24, hp⟩
    | 25, hj, _ => exact (step_25 w B r z P S s h hB hok hz v hj ha).mono fun e w' hp => ⟨_, _, .k25, hp⟩
    | 26, hj, _ => exact (step_26 w B r z P S s h hB hok hz v hj ha).mono fun e w' hp => ⟨_, _, .k26, hp⟩
    | 27, hj, _ => exact (step_27 w B r z P S s h hB hok hz v hj ha).mono fun e w' hp => ⟨_, _, .k27, hp⟩
    | 28, hj, _ => exact (step_28 w B r z P S s h hB hok hz v hj ha).mono fun e w' hp => ⟨_, _, .k28, hp⟩
    | j + 29, _, hh => omega
  · exact (step_oth w B r z P S s h hB hok hz v hk ha).mono fun e w' hp => ⟨_, _, .oth _ hk, hp⟩
end Go.Proofs.Qxb6500773aGreat
