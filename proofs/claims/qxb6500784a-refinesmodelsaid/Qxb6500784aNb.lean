import Derived.Test.Qxb6500784aGr
namespace Go.Proofs.Qxb6500784a
open Go.RowKit

set_option maxRecDepth 100000 in
set_option maxHeartbeats 4000000 in
/-- State.End, no checkpoint open. -/
theorem end_any (w : World) (b o : Nat) (l : Led0) (B : List Nat) (h : LA w b o l [] B) (hc : l.opn = true) :
    Calls Try.prog 79 #[.pointer (some ⟨b, o, none⟩)] w (LStep w b o B (.int .i64 0) { l with opn := false, gl := 0, gu := 0 } []) := by
  have c1 : w.cell? ⟨b, o + 322, none⟩ = some (.bool true) := h.cell (fun m s => by rw [Led0.at322 h.ok, hc])
  have c2 : w.cell? ⟨b, o + 323, none⟩ = some (.int .u64 l.gl) := h.cell (fun m s => Led0.at323 h.ok _ _)
  have c3 : w.cell? ⟨b, o + 324, none⟩ = some (.int .u64 l.gu) := h.cell (fun m s => Led0.at324 h.ok _ _)
  obtain ⟨a, c, c4⟩ := h.sav
  rw [List.length_nil] at c4
  have f1 := h.fz (j := 322) (by omega)
  have f2 := h.fz (j := 323) (by omega)
  have f3 := h.fz (j := 324) (by omega)
  have HR : Hid (LStep w b o B (.int .i64 0) { l with opn := false, gl := 0, gu := 0 } [] (.returned (.int .i64 0)) (((w.setCell ⟨b, o + 322, none⟩ (.bool false)).setCell ⟨b, o + 323, none⟩ (.int .u64 0)).setCell ⟨b, o + 324, none⟩ (.int .u64 0))) := by
    have ok := h.ok
    have o1 : Led0.Ok { l with opn := false } := ⟨ok.bl, ok.nl, ok.c, ok.b, ok.n, ok.m, ok.g⟩
    have o2 : Led0.Ok { l with opn := false, gl := 0 } := ⟨ok.bl, ok.nl, ok.c, ok.b, ok.n, ok.m, ⟨by show (0 : Int) ≤ 0; omega, by show (0 : Int) < 18446744073709551616; omega, ok.g.2.2⟩⟩
    have o3 : Led0.Ok { l with opn := false, gl := 0, gu := 0 } := ⟨ok.bl, ok.nl, ok.c, ok.b, ok.n, ok.m, ⟨by show (0 : Int) ≤ 0; omega, by show (0 : Int) < 18446744073709551616; omega, by show (0 : Int) ≤ 0; omega, by show (0 : Int) < 18446744073709551616; omega⟩⟩
    have a1 := h.set (j := 322) (.bool false) { l with opn := false } (fun m s => Led0.set322 ok m s false) rfl o1
    have a2 := a1.set (j := 323) (.int .u64 0) { l with opn := false, gl := 0 } (fun m s => Led0.set323 o1 m s 0) rfl o2
    have a3 := a2.set (j := 324) (.int .u64 0) { l with opn := false, gl := 0, gu := 0 } (fun m s => Led0.set324 o2 m s 0) rfl o3
    exact ⟨rfl, (((Cg.refl b o 326 B w).set (by omega) _).set (by omega) _).set (by omega) _, B, a3, fun j hj => .inl hj⟩
  generalize LStep w b o B (.int .i64 0) { l with opn := false, gl := 0, gu := 0 } [] = R at *
  clear h hc
  go_enter Try.func79, Try.ntmps79
  go_wp2
  exact HR.out
theorem BA.set3 {w : World} {b o : Nat} {x : Box0} {sv : List Box0} {B : List Nat} (h : BA w b o x sv B) (n : Int) (hn : 0 ≤ n ∧ n ≤ 32) : BA (w.setCell ⟨b, o + 3, none⟩ (.int .i64 n)) b o { x with sn := n } sv B := by
  obtain ⟨sw, u, v, s, h1, h2, h3, h4, h5, h6⟩ := h
  obtain ⟨hc, hr, ht, rfl⟩ := h2
  have hk := hc.keep (S := fun k => k = b) ((Ex.refl (fun k => k = b) _).set (j := o + 3) rfl (.int .i64 n)) (fun k hk e => h6 (e ▸ hk))
  exact ⟨sw, u, v, s, h1, ⟨⟨hk.fl.congr rfl, hk.sl, hk.ea, hk.nd⟩, range_set hr 3 (.int .i64 n), there_set ht _ _, rfl⟩, ⟨h3.c, hn, h3.o, h3.i⟩, h4, by simpa using h5, h6⟩
set_option maxRecDepth 100000 in
set_option maxHeartbeats 4000000 in
/-- Box.NextBlock -/
theorem nextB_any (w : World) (b o : Nat) (x : Box0) (sv : List Box0) (B : List Nat) (h : BA w b o x sv B) :
    Calls Try.prog 80 #[.pointer (some ⟨b, o, none⟩)] w (BStep w b o B (.tuple #[]) { x with sn := 0 } sv) := by
  have c1 : w.cell? ⟨b, o + 3, none⟩ = some (.int .i64 x.sn) := h.cell (fun _ _ _ => rfl)
  have f1 := h.fz (j := 3) (by omega)
  have HR : Hid (BStep w b o B (.tuple #[]) { x with sn := 0 } sv (.returned (.tuple #[])) (w.setCell ⟨b, o + 3, none⟩ (.int .i64 0))) :=
    ⟨rfl, (Cg.refl b o 5 B w).set (by omega) _, B, h.set3 0 (by omega), fun j hj => .inl hj⟩
  generalize BStep w b o B (.tuple #[]) { x with sn := 0 } sv = R at *
  clear h
  go_enter Try.func80, Try.ntmps80
  go_wp2
  exact ⟨rfl, .tuple #[], by simp [results, Try.results80], HR.out⟩
/-- Where the chain c's ledger and box lie. -/
def ledO (c : Int) : Nat := if c = 1 then 0 else 326
def boxO (c : Int) : Nat := if c = 1 then 652 else if c = 2 then 657 else 662
set_option maxRecDepth 100000 in
theorem ledger_any (w : World) (b : Nat) (c : Int) : Calls Try.prog 92 #[.pointer (some ⟨b, 0, none⟩), .int .u8 c] w fun e w' => e = .returned (.pointer (some ⟨b, ledO c, none⟩)) ∧ w' = w := by
  unfold ledO
  by_cases h : c = 1
  · subst h
    go_enter Try.func92, Try.ntmps92
    go_wp2
    go_ret
    exact ⟨rfl, rfl⟩
  · rw [if_neg h]
    have e : (c == 1) = false := by simpa using h
    clear h
    go_enter Try.func92, Try.ntmps92
    go_wp2
    go_ret
    exact ⟨rfl, rfl⟩
set_option maxRecDepth 100000 in
theorem box_any (w : World) (b : Nat) (c : Int) : Calls Try.prog 93 #[.pointer (some ⟨b, 0, none⟩), .int .u8 c] w fun e w' => e = .returned (.pointer (some ⟨b, boxO c, none⟩)) ∧ w' = w := by
  unfold boxO
  by_cases h : c = 1
  · subst h
    go_enter Try.func93, Try.ntmps93
    go_wp2
    go_ret
    exact ⟨rfl, rfl⟩
  · rw [if_neg h]
    by_cases h2 : c = 2
    · subst h2
      go_enter Try.func93, Try.ntmps93
      go_wp2
      go_ret
      exact ⟨rfl, rfl⟩
    · rw [if_neg h2]
      have e : (c == 1) = false := by simpa using h
      have e2 : (c == 2) = false := by simpa using h2
      clear h h2
      go_enter Try.func93, Try.ntmps93
      go_wp2
      go_ret
      exact ⟨rfl, rfl⟩
set_option maxRecDepth 100000 in
theorem wledger_any (w : World) (b : Nat) (c : Int) : Calls Try.prog 59 #[.pointer (some ⟨b, 0, none⟩), .int .u8 c] w fun e w' => e = .returned (.pointer (some ⟨b, ledO c, none⟩)) ∧ w' = w := by
  unfold ledO
  by_cases h : c = 1
  · subst h
    go_enter Try.func59, Try.ntmps59
    go_wp2
    go_ret
    exact ⟨rfl, rfl⟩
  · rw [if_neg h]
    have e : (c == 1) = false := by simpa using h
    clear h
    go_enter Try.func59, Try.ntmps59
    go_wp2
    go_ret
    exact ⟨rfl, rfl⟩
set_option maxRecDepth 100000 in
theorem wbox_any (w : World) (b : Nat) (c : Int) : Calls Try.prog 36 #[.pointer (some ⟨b, 0, none⟩), .int .u8 c] w fun e w' => e = .returned (.pointer (some ⟨b, boxO c, none⟩)) ∧ w' = w := by
  unfold boxO
  by_cases h : c = 1
  · subst h
    go_enter Try.func36, Try.ntmps36
    go_wp2
    go_ret
    exact ⟨rfl, rfl⟩
  · rw [if_neg h]
    by_cases h2 : c = 2
    · subst h2
      go_enter Try.func36, Try.ntmps36
      go_wp2
      go_ret
      exact ⟨rfl, rfl⟩
    · rw [if_neg h2]
      have e : (c == 1) = false := by simpa using h
      have e2 : (c == 2) = false := by simpa using h2
      clear h h2
      go_enter Try.func36, Try.ntmps36
      go_wp2
      go_ret
      exact ⟨rfl, rfl⟩
set_option maxRecDepth 100000 in
theorem depthL_any (w : World) (b o : Nat) (l : Led0) (sv : List Led0) (B : List Nat) (h : LA w b o l sv B) : Calls Try.prog 50 #[.pointer (some ⟨b, o, none⟩)] w fun e w' => e = .returned (.int .i64 sv.length) ∧ w' = w := by
  obtain ⟨a, c, c1⟩ := h.sav
  clear h
  go_enter Try.func50, Try.ntmps50
  go_wp2
  go_ret
  exact ⟨rfl, rfl⟩
set_option maxRecDepth 100000 in
theorem depthB_any (w : World) (b o : Nat) (x : Box0) (sv : List Box0) (B : List Nat) (h : BA w b o x sv B) : Calls Try.prog 51 #[.pointer (some ⟨b, o, none⟩)] w fun e w' => e = .returned (.int .i64 sv.length) ∧ w' = w := by
  obtain ⟨a, c, c1⟩ := h.sav
  clear h
  go_enter Try.func51, Try.ntmps51
  go_wp2
  go_ret
  exact ⟨rfl, rfl⟩
end Go.Proofs.Qxb6500784a
