import Derived.Test.Qxb6500773aGreatZ9
import Derived.Test.Qxb6500773aGreatLo5
namespace Go.Proofs.Qxb6500773aGreat
open Go.RowKit

/-! ### The formula: variables, reset -/
set_option linter.unusedSimpArgs false in
set_option maxRecDepth 100000 in
set_option maxHeartbeats 4000000 in
/-- cnf.Formula.EnsureVars -/
theorem ensureVars_any (w : World) (B b : Nat) (va ve : Value) (nv : Int) (L E : List Int) (h : FF w B b va ve nv L E) (n : Int) :
    Calls Tryz.prog 28 #[.pointer (some ⟨b, 0, none⟩), .int .i64 n] w fun e w' => e = .returned (.int .i64 (if 0 ≤ n ∧ n ≤ 16777215 then 0 else 3)) ∧ FF w' B b va ve (if 0 ≤ n ∧ n ≤ 16777215 ∧ nv < n then n else nv) L E ∧ Ex (fun j => j = b) w w' := by
  have c := h.c
  have bf := h.ar.f
  by_cases h1 : n < 0
  · have d1 : decide (n < 0) = true := decide_eq_true h1
    rw [if_neg (by omega), if_neg (by omega)]
    have HF := hide h
    clear h
    go_enter Tryz.func28, Tryz.ntmps28
    go_wp2
    go_ret
    exact ⟨rfl, HF.out, Ex.refl _ _⟩
  · have d1 : decide (n < 0) = false := decide_eq_false h1
    by_cases h2 : 16777215 < n
    · have d2 : decide (16777215 < n) = true := decide_eq_true h2
      rw [if_neg (by omega), if_neg (by omega)]
      have HF := hide h
      clear h
      go_enter Tryz.func28, Tryz.ntmps28
      go_wp2
      go_ret
      exact ⟨rfl, HF.out, Ex.refl _ _⟩
    · have d2 : decide (16777215 < n) = false := decide_eq_false h2
      rw [if_pos (by omega)]
      by_cases h3 : nv < n
      · have d3 : decide (nv < n) = true := decide_eq_true h3
        rw [if_pos (by omega)]
        have HF := hide (h.setNv n)
        clear h
        go_enter Tryz.func28, Tryz.ntmps28
        go_wp2
        go_ret
        exact ⟨rfl, HF.out.1, HF.out.2⟩
      · have d3 : decide (nv < n) = false := decide_eq_false h3
        rw [if_neg (by omega)]
        have HF := hide h
        clear h
        go_enter Tryz.func28, Tryz.ntmps28
        go_wp2
        go_ret
        exact ⟨rfl, HF.out, Ex.refl _ _⟩
set_option linter.unusedSimpArgs false in
set_option maxRecDepth 100000 in
set_option maxHeartbeats 4000000 in
/-- cnf.Formula.NewVar -/
theorem newVar_any (w : World) (B b : Nat) (va ve : Value) (nv : Int) (L E : List Int) (h : FF w B b va ve nv L E) (hn : 0 ≤ nv ∧ nv ≤ 16777215) :
    Calls Tryz.prog 31 #[.pointer (some ⟨b, 0, none⟩)] w fun e w' => e = .returned (.tuple #[.int .i32 (if nv < 16777215 then nv + 1 else 0), .int .i64 (if nv < 16777215 then 0 else 3)]) ∧ FF w' B b va ve (if nv < 16777215 then nv + 1 else nv) L E ∧ Ex (fun j => j = b) w w' := by
  have c := h.c
  have bf := h.ar.f
  by_cases h1 : nv < 16777215
  · have d1 : decide (16777215 ≤ nv) = false := decide_eq_false (by omega)
    rw [if_pos h1, if_pos h1, if_pos h1]
    have hw : wrap64 (nv + 1) = nv + 1 := by unfold wrap64; omega
    have hw2 : IntKind.i32.wrap (nv + 1) = nv + 1 := by rw [IntKind.wrap_i32]; omega
    have HF := hide (h.setNv (nv + 1))
    have y := HF.out.1.c
    clear h
    go_enter Tryz.func31, Tryz.ntmps31
    go_wp2_with (with_reducible refine bodyPost_ret (v := .tuple #[.int .i32 (nv + 1), .int .i64 0]) ?hr ?hd ?hp)
    case hr => simp [results, Tryz.results31, go_sem]
    case hd => rfl
    case hp => first | exact ⟨rfl, HF.out.1, HF.out.2⟩ | exact ⟨HF.out.1, HF.out.2⟩
  · have d1 : decide (16777215 ≤ nv) = true := decide_eq_true (by omega)
    rw [if_neg h1, if_neg h1, if_neg h1]
    have HF := hide h
    clear h
    go_enter Tryz.func31, Tryz.ntmps31
    go_wp2_with (with_reducible refine bodyPost_ret (v := .tuple #[.int .i32 0, .int .i64 3]) ?hr ?hd ?hp)
    case hr => simp [results, Tryz.results31, go_sem]
    case hd => rfl
    case hp => first | exact ⟨rfl, HF.out, Ex.refl _ _⟩ | exact ⟨HF.out, Ex.refl _ _⟩
theorem own_zero {w : World} {B e n c : Nat} {a : Option Addr} {xs : List Value} (h : w.ownsRow B e 1 (.slice a n c) n xs) : w.ownsRow B e 1 (.slice a 0 c) 0 [] := by
  obtain ⟨h1, ⟨e1, e2⟩ | ⟨g, cap, cur, e1, h2, h3, h4, h5, h6, h7⟩⟩ := h
  · injection e1 with e1 e3 e4
    subst e1 e4
    exact World.ownsRow_nil _ _ _ _
  · injection e1 with e1 e3 e4
    subst e1 e4
    exact ⟨rfl, .inr ⟨g, c, cur, rfl, h2, h3, Nat.zero_le _, h5, h6, by simp⟩⟩
theorem own_capZ {w : World} {B e s n m : Nat} {sa : Option Addr} {sc : Nat} {xs : List Value} (h : w.ownsRow B e s (.slice sa m sc) n xs) : n ≤ sc := by
  obtain ⟨_, ⟨e1, e2⟩ | ⟨g, cap, cur, e1, _, _, h4, _⟩⟩ := h
  · omega
  · injection e1 with _ _ e3; omega
def RsPost (w : World) (B b o : Nat) (va ve : Value) (e : Ending) (w' : World) : Prop :=
  e = .returned (.tuple #[]) ∧ Ex (fun j => j = b) w w' ∧ (∀ j u, j ≠ o → j ≠ o + 1 → w.cell? ⟨b, j, none⟩ = some u → w'.cell? ⟨b, j, none⟩ = some u) ∧ ∃ va' ve', AR w' B b o va' ve' [] [] ∧ (∀ k, va'.ownBlock = some k → va.ownBlock = some k) ∧ (∀ k, ve'.ownBlock = some k → ve.ownBlock = some k)
set_option linter.unusedSimpArgs false in
set_option maxRecDepth 100000 in
set_option maxHeartbeats 4000000 in
/-- cnf.arena.reset -/
theorem reset_any (w : World) (B b o : Nat) (va ve : Value) (L E : List Int) (h : AR w B b o va ve L E) : Calls Tryz.prog 102 #[.pointer (some ⟨b, o, none⟩)] w (RsPost w B b o va ve) := by
  have c0 := h.c0
  have c1 := h.c1
  have bf := h.f
  have r0 := h.r0
  have r1 := h.r1
  have a0 := h.a0
  have a1 := h.a1
  have a2 := h.a2
  obtain ⟨x, cx, hx⟩ := own_form r0
  obtain ⟨y, cy, hy⟩ := own_form r1
  rw [hx, hy]
  rw [hx] at c0 r0 a0 a2
  rw [hy] at c1 r1 a1 a2
  generalize L.length = n at *
  generalize E.length = m at *
  clear h hx hy
  have z0 := own_zero r0
  have z1 := own_zero r1
  have e1 : Ex (fun j => j = b) w ((w.setCell ⟨b, o, none⟩ (.slice x 0 cx)).setCell ⟨b, o + 1, none⟩ (.slice y 0 cy)) := ((Ex.refl (fun j => j = b) w).set (p := b) rfl _).set (p := b) rfl _
  have k1 : (w.setCell ⟨b, o, none⟩ (.slice x 0 cx)).cell? ⟨b, o + 1, none⟩ = some (.slice y m cy) := by
    rw [World.cell?_setCell_other _ _ _ _ (fun z => by injection z with _ z; omega)]; exact c1
  have q : ∀ j u, j ≠ o → j ≠ o + 1 → w.cell? ⟨b, j, none⟩ = some u → ((w.setCell ⟨b, o, none⟩ (.slice x 0 cx)).setCell ⟨b, o + 1, none⟩ (.slice y 0 cy)).cell? ⟨b, j, none⟩ = some u := fun j u h1 h2 hu => by
    rw [World.cell?_setCell_other _ _ _ _ (fun z => by injection z with _ z; omega), World.cell?_setCell_other _ _ _ _ (fun z => by injection z with _ z; omega)]; exact hu
  have g0 : ((w.setCell ⟨b, o, none⟩ (.slice x 0 cx)).setCell ⟨b, o + 1, none⟩ (.slice y 0 cy)).cell? ⟨b, o, none⟩ = some (.slice x 0 cx) := by
    rw [World.cell?_setCell_other _ _ _ _ (fun z => by injection z with _ z; omega)]; exact World.cell?_setCell_same _ _ _ c0
  have nx : ∀ k, (Value.slice x 0 cx).ownBlock = some k → (Value.slice x n cx).ownBlock = some k := fun k hk => by cases x <;> exact hk
  have ny : ∀ k, (Value.slice y 0 cy).ownBlock = some k → (Value.slice y m cy).ownBlock = some k := fun k hk => by cases y <;> exact hk
  have HP : Hid (RsPost w B b o (.slice x n cx) (.slice y m cy) (.returned (.tuple #[])) ((w.setCell ⟨b, o, none⟩ (.slice x 0 cx)).setCell ⟨b, o + 1, none⟩ (.slice y 0 cy))) := ⟨rfl, e1, q, .slice x 0 cx, .slice y 0 cy, ⟨g0, World.cell?_setCell_same _ _ _ k1, fun j => by rw [set_frozen, set_frozen]; exact bf j, own_kept z0 e1 (fun j hj (z : j = b) => a0 (by rw [← z]; exact nx j hj)), own_kept z1 e1 (fun j hj (z : j = b) => a1 (by rw [← z]; exact ny j hj)), fun z => a0 (nx b z), fun z => a1 (ny b z), fun k hk hk2 => a2 k (nx k hk) (ny k hk2)⟩, nx, ny⟩
  have hcx : n ≤ cx := own_capZ r0
  have hcy : m ≤ cy := own_capZ r1
  have hbx : (0 : Int) ≤ (cx : Int) := by omega
  clear r0 r1 a0 a1 a2 z0 z1 e1 q g0 nx ny
  go_enter Tryz.func102, Tryz.ntmps102
  go_wp2_with (first | with_reducible refine bodyPost_ret (v := .tuple #[]) ?hr ?hd ?hp | with_reducible refine bodyPost_nrm (v := .tuple #[]) ?hr ?hd ?hp)
  case hr => exact results_nil Tryz.results102
  case hd => rfl
  case hp => exact HP.out
end Go.Proofs.Qxb6500773aGreat
