import Derived.Test.Qxb6500773aGreatOd
namespace Go.Proofs.Qxb6500773aGreat
open Go.RowKit

/-! ### The model's step, plain -/
def fm14 (s : Mst) : FmO → Mst × Ob
  | .ok nv F => ({ s with nv := nv, F := F }, { ob0 with n := F.length, m := nv })
  | .bad er ln col => (s, { ob0 with er := er, ln := ln, col := col, n := s.F.length, m := s.nv })
def dr18 (s : Mst) : DrO → Mst × Ob
  | .ok P => ({ s with P := P }, { ob0 with n := P.length })
  | .bad er ln col => (s, { ob0 with er := er, ln := ln, col := col, n := s.P.length })
def mtN (s : Mst) (a : Int) (L Y : List Int) : Nat → Mst × Ob
  | 0 => ({ s with nv := 0, F := [], A := [], P := [] }, ob0)
  | 1 => ({ s with nv := (if 0 ≤ a ∧ a ≤ 16777215 ∧ s.nv < a then a else s.nv) }, { ob0 with er := (if 0 ≤ a ∧ a ≤ 16777215 then 0 else 3), n := (if 0 ≤ a ∧ a ≤ 16777215 ∧ s.nv < a then a else s.nv) })
  | 2 => (if s.nv = 16777215 then s else { s with nv := s.nv + 1 }, if s.nv = 16777215 then { ob0 with er := 3 } else { ob0 with n := s.nv + 1 })
  | 3 => (if ncE L = 0 then { s with F := s.F ++ [L], nv := mxA s.nv L } else s, if ncE L = 0 then { ob0 with n := (s.F.length : Int), m := mxA s.nv L } else { ob0 with er := ncE L, n := -1, m := s.nv })
  | 4 => (if (fromP a).2 = 0 then { s with A := asgP s.A a } else s, if (fromP a).2 = 0 then { ob0 with n := (asgP s.A a).length } else { ob0 with er := (fromP a).2, n := s.A.length })
  | 5 => (if (1 ≤ a ∧ a ≤ 16777215) then { s with A := s.A.filter (fun y => absP y != a) } else s, if (1 ≤ a ∧ a ≤ 16777215) then { ob0 with n := (s.A.filter (fun y => absP y != a)).length } else { ob0 with er := 3, n := s.A.length })
  | 6 => ({ (s : Mst) with A := [] }, ob0)
  | 7 => (s, if (fromP a).2 = 0 then { ob0 with n := mvP s.A a, m := 2 * absP a + (if a < 0 then 1 else 0) } else { ob0 with er := (fromP a).2 })
  | 8 => (s, if (0 ≤ a ∧ a < s.F.length) then { ob0 with n := emP (s.F.getD a.toNat []) s.A } else { ob0 with er := 4 })
  | 9 => (s, if (0 ≤ a ∧ a < s.F.length) then { ob0 with n := (msP (s.F.getD a.toNat []) s.A).1, m := (msP (s.F.getD a.toNat []) s.A).2 } else { ob0 with er := 4 })
  | 10 => (s, { ob0 with n := mefP s.F s.A, m := if mefP s.F s.A = 1 then 1 else 0 })
  | 11 => (s, { ob0 with n := mffP s.A s.F 0 })
  | 12 => (s, if ncE L = 0 then { ob0 with n := if L.any (fun d => memP L (-d)) = true then 1 else 0, X := pcP (srP L) } else { ob0 with er := ncE L })
  | 13 => (s, { ob0 with X := pcP (srP s.A) })
  | 14 => ((fm14 s (fmP Y)).1, (fm14 s (fmP Y)).2)
  | 15 => (s, { ob0 with X := pdP s.nv.toNat s.F })
  | 16 => (if ncE L = 0 then { s with P := s.P ++ [(false, L)] } else s, if ncE L = 0 then { ob0 with n := (s.P.length : Int) + 1 } else { ob0 with er := ncE L, n := s.P.length })
  | 17 => (if ncE L = 0 then { s with P := s.P ++ [(true, L)] } else s, if ncE L = 0 then { ob0 with n := (s.P.length : Int) + 1 } else { ob0 with er := ncE L, n := s.P.length })
  | 18 => ((dr18 s (drP Y)).1, (dr18 s (drP Y)).2)
  | 19 => (s, { ob0 with X := ptB s.P })
  | 20 => (if ncE L = 0 then { s with A := L.foldl asgP s.A } else s, if ncE L = 0 then { ob0 with n := (L.foldl asgP s.A).length } else { ob0 with er := ncE L, n := s.A.length })
  | 21 => (s, { ob0 with n := if mtotP s.A 1 a.toNat = true then 1 else 0 })
  | 22 => (s, if ncE L = 0 then (if (0 ≤ a ∧ a < s.F.length) then { ob0 with n := cmP L (s.F.getD a.toNat []), m := if cmP L (s.F.getD a.toNat []) = 0 then 1 else 0 } else { ob0 with er := 4 }) else { ob0 with er := ncE L })
  | 23 => (s, if (0 ≤ a ∧ a < s.F.length) then { ob0 with n := 1, X := pcP (s.F.getD a.toNat []) } else { ob0 with X := pcP [] })
  | 24 => (s, if (0 ≤ a ∧ a < s.P.length) then { ob0 with n := 1, X := ptB [s.P.getD a.toNat (false, [])] } else { ob0 with X := pcP [] })
  | 25 => (s, { ob0 with n := mxQ 0 s.P, m := emQ s.P })
  | 26 => ({ s with sv := s.nv, SF := s.F, SA := s.A, SP := s.P }, ob0)
  | 27 => ({ s with nv := s.sv, F := s.SF, A := s.SA, P := s.SP }, ob0)
  | 28 => (s, { ob0 with n := 4 * (if sfP s.nv s.F s.sv s.SF = true then 1 else 0) + 2 * (if cmP (srP s.A) (srP s.SA) = 0 then 1 else 0) + (if ssP s.P s.SP = true then 1 else 0), m := 4 * (if sfP s.nv s.F s.sv s.SF = true then 1 else 0) + 2 * (if cmP (srP s.A) (srP s.SA) = 0 then 1 else 0) + (if ssP s.P s.SP = true then 1 else 0) })
  | _ => (s, ob0)
def mtF (s : Mst) (a : Int) (L Y : List Int) (kd : Int) : Mst × Ob := if 0 ≤ kd ∧ kd ≤ 28 then mtN s a L Y kd.toNat else (s, ob0)
end Go.Proofs.Qxb6500773aGreat
