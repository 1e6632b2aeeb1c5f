import Derived.Test.Qxb6500778aNL
import Derived.Lib.AppendStr
namespace Go.Proofs.Qxb6500778a
open Go.RowKit Go.Lib

/-! ### The printer -/
def u8s (l : List Int) : List Value := l.map (fun c => Value.int .u8 c)
def strL (s : ByteArray) : List Int := s.data.toList.map (fun b => (b.toNat : Int))
theorem strL_cells (s : ByteArray) : strCells s = u8s (strL s) := by
  unfold strL u8s
  simp [strCells]
theorem strL_len (s : ByteArray) : s.size = (strL s).length := by unfold strL; rw [List.length_map, Array.length_toList]; rfl
theorem u8s_app (a b : List Int) : u8s (a ++ b) = u8s a ++ u8s b := by simp [u8s]
/-- The printer at p has gathered X. -/
structure PR (w : World) (p : Nat) (X : List Int) : Prop where
  ex : ∃ v, w.cell? ⟨p, 0, none⟩ = some v ∧ w.ownsRow (p + 1) 5 1 v X.length (u8s X)
  fz : ∀ j, w.frozen? ⟨p, j, none⟩ = false
theorem PR.lt {w : World} {p : Nat} {X : List Int} (h : PR w p X) : p < w.heap.size := by
  obtain ⟨v, h1, _⟩ := h.ex
  exact World.block_lt_of_cell? _ _ h1
theorem PR.new {w w' : World} {p : Nat} {X : List Int} (h : PR w p X) (e : Ex (fun _ => False) w w') : PR w' p X := by
  obtain ⟨v, h1, h2⟩ := h.ex
  exact ⟨⟨v, e.cell (fun e => e) h1, own_kept h2 e (fun _ _ e => e)⟩, fun j => (e.frozen (fun e => e) h.lt).trans (h.fz j)⟩
theorem PR.put {w w2 : World} {p : Nat} {X Y : List Int} {v v' : Value} (h : PR w p X) (hv : w.cell? ⟨p, 0, none⟩ = some v) (ho : w.ownsRow (p + 1) 5 1 v X.length (u8s X)) (hg : w.grownBy w2 v.ownBlock) (ho2 : w2.ownsRow (p + 1) 5 1 v' Y.length (u8s Y)) : PR (w2.setCell ⟨p, 0, none⟩ v') p Y ∧ Ex (fun k => p ≤ k) w (w2.setCell ⟨p, 0, none⟩ v') := by
  have e1 : Ex (fun k => p + 1 ≤ k) w w2 := Ex.ofGrown hg (fun k hk => (ho.lt k hk.symm).1)
  have np : ¬ (p + 1 ≤ p) := by omega
  have hc := e1.cell np hv
  have e2 : Ex (fun k => k = p) w2 (w2.setCell ⟨p, 0, none⟩ v') := (Ex.refl (fun k => k = p) w2).set (p := p) rfl _
  refine ⟨⟨⟨v', World.cell?_setCell_same _ _ _ hc, own_kept ho2 e2 (fun k hk (x : k = p) => by have := (ho2.lt k hk).1; omega)⟩, fun j => by rw [set_frozen]; exact (e1.frozen np h.lt).trans (h.fz j)⟩, ?_⟩
  exact (e1.mono (fun k hk => by omega)).trans (e2.mono (fun k (hk : k = p) => by show p ≤ k; omega))
theorem Try.inf5 : (Try.prog.info? 5).map (fun i => (i.zero, i.size, i.bytes)) = some (some (.int .u8 0), 1, 1) := by kernel_rfl
def PRPost (w : World) (p : Nat) (X : List Int) (e : Ending) (w' : World) : Prop := e = .returned (.tuple #[]) ∧ PR w' p X ∧ Ex (fun k => p ≤ k) w w'
set_option maxRecDepth 100000 in
set_option maxHeartbeats 4000000 in
/-- printer.str -/
theorem str_any (w : World) (p : Nat) (X : List Int) (s : ByteArray) (h : PR w p X) (hl : X.length + (strL s).length ≤ 1099511627776) :
    Calls Try.prog 38 #[.pointer (some ⟨p, 0, none⟩), .string s] w (PRPost w p (X ++ strL s)) := by
  obtain ⟨i0, hi, hz0, hz1, hz2⟩ := info_parts Try.inf5
  have HI := hide (And.intro hi (And.intro hz0 (And.intro hz1 hz2)))
  have HP := hide h
  have fz := h.fz 0
  have hpl := h.lt
  obtain ⟨v, c0, ho⟩ := h.ex
  obtain ⟨sa, sc, rfl⟩ := own_len ho
  have HC := hide c0
  have HO := hide ho
  have hsz := strL_len s
  clear h ho hi hz0 hz1 hz2
  have HY : Hid ((X ++ strL s).length = X.length + s.size) := by show _ = _; rw [List.length_append, hsz]
  rw [← hsz] at hl
  clear hsz
  generalize hn : X.length = n at *
  have HNX := hide hn
  clear hn
  go_enter Try.func38, Try.ntmps38
  go_wp2_with (at_builtin; go_loud (refine wpList_append_own_string _ rfl (.tmp 8) (.tmp 9) 46 9 rfl (p + 1) 5 i0 Try.underlying46 Try.underlying9 HI.out.1 HI.out.2.1 HI.out.2.2.1 HI.out.2.2.2 (.slice sa n sc) n (u8s X) rfl HO.out s rfl (by unfold maxLen; omega) (by omega) (by omega) ?_; intro v' w2 hown hgrow _; obtain ⟨sa2, sc2, rfl⟩ := own_len hown; have HFN := hide (HP.out.put (Y := X ++ strL s) HC.out (by rw [HNX.out]; exact HO.out) hgrow (by rw [u8s_app, ← strL_cells, HY.out]; exact hown)); have c2 : w2.cell? ⟨p, 0, none⟩ = some (.slice sa n sc) := (hgrow.cell c0 (fun e => Nat.not_succ_le_self p (own_row HO.out e.symm))); have f2 : w2.frozen? ⟨p, 0, none⟩ = false := (hgrow.frozen_far ⟨p, 0, none⟩ hpl (fun e => Nat.not_succ_le_self p (own_row HO.out e.symm))).trans fz; clear hown hgrow))
  go_end0
  exact ⟨rfl, HFN.out.1, HFN.out.2⟩
def decL (v : Nat) : List Int := if v < 10 then [48 + (v : Int)] else decL (v / 10) ++ [48 + ((v % 10 : Nat) : Int)]
theorem decL_len : ∀ (v : Nat), (decL v).length ≤ v + 1 := by
  intro v
  induction v using Nat.strongRecOn with
  | ind v ih =>
    rw [decL]
    split
    · simp
    · have := ih (v / 10) (by omega)
      rw [List.length_append]
      simp only [List.length_singleton]
      omega
set_option maxRecDepth 100000 in
set_option maxHeartbeats 4000000 in
/-- printer.num -/
theorem num_any : ∀ (v : Nat) (w : World) (p : Nat) (X : List Int), v ≤ 1000000 → PR w p X → X.length + v + 1 ≤ 1099511627776 →
    Calls Try.prog 39 #[.pointer (some ⟨p, 0, none⟩), .int .i64 (v : Int)] w (PRPost w p (X ++ decL v)) := by
  intro v
  induction v using Nat.strongRecOn with
  | ind v ih =>
    intro w p X hv h hl
    obtain ⟨i0, hi, hz0, hz1, hz2⟩ := info_parts Try.inf5
    have HI := hide (And.intro hi (And.intro hz0 (And.intro hz1 hz2)))
    have HP := hide h
    clear h hi hz0 hz1 hz2
    by_cases hlow : v < 10
    · have hde : decL v = [48 + (v : Int)] := by rw [decL, if_pos hlow]
      rw [hde]
      have hdb : decide ((10 : Int) ≤ (v : Int)) = false := decide_eq_false (by omega)
      have hm : ((v : Int)).tmod 10 = v := by rw [Int.tmod_eq_emod_of_nonneg (by omega)]; omega
      have hm2 : (v : Int) % 10 = v := by omega
      have hw1 : IntKind.i64.wrap (48 + (v : Int)) = 48 + v := by rw [IntKind.wrap_i64]; omega
      have hw2 : IntKind.u8.wrap (48 + (v : Int)) = 48 + v := by rw [IntKind.wrap_u8]; omega
      have HLX : Hid (X.length + 1 ≤ 1099511627776) := by show _ ≤ _; omega
      clear hde ih hl
      go_enter Try.func39, Try.ntmps39
      have fz := HP.out.fz 0
      have hpl := HP.out.lt
      obtain ⟨x, c0, ho⟩ := HP.out.ex
      obtain ⟨sa, sc, rfl⟩ := own_len ho
      have HC := hide c0
      have HO := hide ho
      have HOA := hide (ho.alloc (.cells #[.int .u8 (48 + (v : Int))] 5))
      have HSZ : Hid (p + 1 ≤ (w.alloc (.cells #[.int .u8 (48 + (v : Int))] 5)).heap.size) := by show _ ≤ _; simp; omega
      have c0a := ((Ex.refl (fun _ => False) w).alloc (.cells #[.int .u8 (48 + (v : Int))] 5)).cell (fun e => e) c0
      have fza := (((Ex.refl (fun _ => False) w).alloc (.cells #[.int .u8 (48 + (v : Int))] 5)).frozen (fun e => e) hpl).trans fz
      have HYL : Hid ((X ++ [48 + (v : Int)]).length = (X).length + 1) := by show _ = _; rw [List.length_append]; rfl
      have HYU : Hid (u8s (X ++ [48 + (v : Int)]) = u8s (X) ++ [.int .u8 (48 + (v : Int))]) := by show _ = _; rw [u8s_app]; rfl
      have hlx : (X).length + 1 ≤ 1099511627776 := HLX.out
      generalize hn : (X).length = n at *
      have HNX := hide hn
      clear hn ho
      go_wp2_with (at_builtin; go_loud (refine wpList_append_lies _ rfl (.tmp 14) (.tmp 19) 46 rfl (p + 1) 5 i0 _ 1 1 Try.underlying46 HI.out.1 HI.out.2.1 HI.out.2.2.1 HI.out.2.2.2 rfl (by decide) (.slice sa n sc) n (u8s (X)) rfl HOA.out ⟨w.heap.size, 0, none⟩ 1 1 [.int .u8 (48 + (v : Int))] rfl rfl (fun j u hj => new_cells w [.int .u8 (48 + (v : Int))] 5 j u hj) (fun u hu => by simp at hu; subst hu; rfl) (by decide) (by unfold maxLen; omega) (by omega) HSZ.out _ rfl ?_; intro g cap w2 hown hgrow hg hlt; have HFN := hide (PR.put (Y := X ++ [48 + (v : Int)]) (HP.out.new ((Ex.refl (fun _ => False) w).alloc (.cells #[.int .u8 (48 + (v : Int))] 5))) c0a (by rw [HNX.out]; exact HOA.out) hgrow (by rw [HYU.out, HYL.out]; exact hown)); have c2 : w2.cell? ⟨p, 0, none⟩ = some (.slice sa n sc) := (hgrow.cell c0a (fun e => Nat.not_succ_le_self p (own_row HO.out e.symm))); have f2 : w2.frozen? ⟨p, 0, none⟩ = false := (hgrow.frozen_far ⟨p, 0, none⟩ (by simp; omega) (fun e => Nat.not_succ_le_self p (own_row HO.out e.symm))).trans fza; clear hown hgrow hg))
      go_end0
      exact ⟨rfl, HFN.out.1, ((Ex.refl _ w).alloc _).trans HFN.out.2⟩
    · have hde : decL v = decL (v / 10) ++ [48 + ((v % 10 : Nat) : Int)] := by rw [decL, if_neg hlow]
      rw [hde, ← List.append_assoc]
      have hdb : decide ((10 : Int) ≤ (v : Int)) = true := decide_eq_true (by omega)
      obtain ⟨m, hmm⟩ : ∃ m, v % 10 = m := ⟨_, rfl⟩
      rw [hmm]
      have hm9 : m ≤ 9 := by omega
      have hm : ((v : Int)).tmod 10 = m := by rw [Int.tmod_eq_emod_of_nonneg (by omega)]; omega
      have hm2 : (v : Int) % 10 = m := by omega
      have hw1 : IntKind.i64.wrap (48 + (m : Int)) = 48 + m := by rw [IntKind.wrap_i64]; omega
      have hw2 : IntKind.u8.wrap (48 + (m : Int)) = 48 + m := by rw [IntKind.wrap_u8]; omega
      have HR := hide (ih (v / 10) (by omega) w p X (by omega) HP.out (by omega))
      rw [show ((v / 10 : Nat) : Int) = (v : Int) / 10 by omega] at HR
      have hlX : (X ++ decL (v / 10)).length + 1 ≤ 1099511627776 := by
        have := decL_len (v / 10)
        rw [List.length_append]
        omega
      have HLX := hide hlX
      clear hde ih hl hmm hlX
      generalize X ++ decL (v / 10) = Z at *
      go_enter Try.func39, Try.ntmps39
      go_wp2_with fail
      refine HR.out.mono ?_
      rintro e w1 ⟨rfl, hp1, hex1⟩
      have HP1 := hide hp1
      have HEX := hide hex1
      clear hp1 hex1 HR
      have fz := HP1.out.fz 0
      have hpl := HP1.out.lt
      obtain ⟨x, c0, ho⟩ := HP1.out.ex
      obtain ⟨sa, sc, rfl⟩ := own_len ho
      have HC := hide c0
      have HO := hide ho
      have HOA := hide (ho.alloc (.cells #[.int .u8 (48 + (m : Int))] 5))
      have HSZ : Hid (p + 1 ≤ (w1.alloc (.cells #[.int .u8 (48 + (m : Int))] 5)).heap.size) := by show _ ≤ _; simp; omega
      have c0a := ((Ex.refl (fun _ => False) w1).alloc (.cells #[.int .u8 (48 + (m : Int))] 5)).cell (fun e => e) c0
      have fza := (((Ex.refl (fun _ => False) w1).alloc (.cells #[.int .u8 (48 + (m : Int))] 5)).frozen (fun e => e) hpl).trans fz
      have HYL : Hid ((Z ++ [48 + (m : Int)]).length = (Z).length + 1) := by show _ = _; rw [List.length_append]; rfl
      have HYU : Hid (u8s (Z ++ [48 + (m : Int)]) = u8s (Z) ++ [.int .u8 (48 + (m : Int))]) := by show _ = _; rw [u8s_app]; rfl
      have hlx : (Z).length + 1 ≤ 1099511627776 := HLX.out
      generalize hn : (Z).length = n at *
      have HNX := hide hn
      clear hn ho
      go_wp2_with (at_builtin; go_loud (refine wpList_append_lies _ rfl (.tmp 14) (.tmp 19) 46 rfl (p + 1) 5 i0 _ 1 1 Try.underlying46 HI.out.1 HI.out.2.1 HI.out.2.2.1 HI.out.2.2.2 rfl (by decide) (.slice sa n sc) n (u8s (Z)) rfl HOA.out ⟨w1.heap.size, 0, none⟩ 1 1 [.int .u8 (48 + (m : Int))] rfl rfl (fun j u hj => new_cells w1 [.int .u8 (48 + (m : Int))] 5 j u hj) (fun u hu => by simp at hu; subst hu; rfl) (by decide) (by unfold maxLen; omega) (by omega) HSZ.out _ rfl ?_; intro g cap w2 hown hgrow hg hlt; have HFN := hide (PR.put (Y := Z ++ [48 + (m : Int)]) (HP1.out.new ((Ex.refl (fun _ => False) w1).alloc (.cells #[.int .u8 (48 + (m : Int))] 5))) c0a (by rw [HNX.out]; exact HOA.out) hgrow (by rw [HYU.out, HYL.out]; exact hown)); have c2 : w2.cell? ⟨p, 0, none⟩ = some (.slice sa n sc) := (hgrow.cell c0a (fun e => Nat.not_succ_le_self p (own_row HO.out e.symm))); have f2 : w2.frozen? ⟨p, 0, none⟩ = false := (hgrow.frozen_far ⟨p, 0, none⟩ (by simp; omega) (fun e => Nat.not_succ_le_self p (own_row HO.out e.symm))).trans fza; clear hown hgrow hg))
      go_end0
      exact ⟨rfl, HFN.out.1, HEX.out.trans (((Ex.refl _ w1).alloc _).trans HFN.out.2)⟩
end Go.Proofs.Qxb6500778a
