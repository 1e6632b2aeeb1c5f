import Derived.Test.Qxb6500777aTab
import Derived.Test.Qxb6500777aFus
namespace Go.Proofs.Qxb6500777a
open Go.RowKit

/-- tracks.Board.Held -/
theorem held_any (w : World) (b tm : Nat) (htm : tm < 4) (T : Tbl) (h : TA w b (1 + tm * 754) T) : Calls Try.prog 25 #[.pointer (some ⟨b, 0, none⟩), .int .i64 tm] w fun e w' => e = .returned (.int .i64 T.held) ∧ w' = w := by
  have htmi : (tm : Int) < 4 := by omega
  have htm0 : decide ((tm : Int) < 0) = false := by simp
  have HT := hide h
  clear h
  obtain ⟨o, ho⟩ : ∃ o, 1 + tm * 754 = o := ⟨_, rfl⟩
  rw [ho] at HT
  have c := HT.out.held
  go_enter Try.func25, Try.ntmps25
  go_wp2
  go_ret
  exact ⟨rfl, rfl⟩
theorem held_out (w : World) (p : Value) (tm : Int) (htm : tm < 0 ∨ 4 ≤ tm) : Calls Try.prog 25 #[p, .int .i64 tm] w fun e w' => e = .returned (.int .i64 0) ∧ w' = w := by
  go_enter Try.func25, Try.ntmps25
  rcases htm with h | h
  · have h' : decide (tm < 0) = true := by simp [h]
    go_wp2
    (go_ret; exact ⟨rfl, rfl⟩)
  · have h' : decide (tm < 0) = false := by simp; omega
    have h2 : decide (tm < 4) = false := by simp; omega
    go_wp2
    (go_ret; exact ⟨rfl, rfl⟩)

/-- tracks.Board.Issued -/
theorem issued_any (w : World) (b tm : Nat) (htm : tm < 4) (T : Tbl) (h : TA w b (1 + tm * 754) T) (hn : 0 ≤ T.next ∧ T.next ≤ 1000000000) : Calls Try.prog 29 #[.pointer (some ⟨b, 0, none⟩), .int .i64 tm] w fun e w' => e = .returned (.int .i64 (T.next - 1)) ∧ w' = w := by
  have htmi : (tm : Int) < 4 := by omega
  have htm0 : decide ((tm : Int) < 0) = false := by simp
  have HT := hide h
  clear h
  obtain ⟨o, ho⟩ : ∃ o, 1 + tm * 754 = o := ⟨_, rfl⟩
  rw [ho] at HT
  have c := HT.out.next
  have hw : IntKind.i64.wrap (T.next - 1) = T.next - 1 := by rw [IntKind.wrap_i64]; omega
  go_enter Try.func29, Try.ntmps29
  go_wp2
  go_ret
  exact ⟨rfl, rfl⟩
theorem issued_out (w : World) (p : Value) (tm : Int) (htm : tm < 0 ∨ 4 ≤ tm) : Calls Try.prog 29 #[p, .int .i64 tm] w fun e w' => e = .returned (.int .i64 0) ∧ w' = w := by
  go_enter Try.func29, Try.ntmps29
  rcases htm with h | h
  · have h' : decide (tm < 0) = true := by simp [h]
    go_wp2
    (go_ret; exact ⟨rfl, rfl⟩)
  · have h' : decide (tm < 0) = false := by simp; omega
    have h2 : decide (tm < 4) = false := by simp; omega
    go_wp2
    (go_ret; exact ⟨rfl, rfl⟩)

/-- What Resolve tells. -/
inductive Res (T : Tbl) (n : Int) : Int → Bool → Prop where
  | some (k : Nat) : k < 64 → (T.sl k).used = true → (T.sl k).tr.num = n → Res T n (T.sl k).tg true
  | none : (∀ k, k < 64 → (T.sl k).used = true → (T.sl k).tr.num ≠ n) → Res T n (-1) false
def RsPost (w : World) (R : Int → Bool → Prop) (e : Ending) (w' : World) : Prop := ∃ t h, e = .returned (.tuple #[.int .i64 t, .bool h]) ∧ R t h ∧ w' = w
set_option maxHeartbeats 2000000 in
/-- tracks.Board.Resolve -/
theorem resolve_any (w : World) (b tm : Nat) (htm : tm < 4) (T : Tbl) (h : TA w b (1 + tm * 754) T) (n : Int) : Calls Try.prog 30 #[.pointer (some ⟨b, 0, none⟩), .int .i64 tm, .int .i64 n] w (RsPost w (Res T n)) := by
  have htmi : (tm : Int) < 4 := by omega
  have htm0 : decide ((tm : Int) < 0) = false := by simp
  have HT := hide h
  clear h
  obtain ⟨o, ho⟩ : ∃ o, 1 + tm * 754 = o := ⟨_, rfl⟩
  rw [ho] at HT
  go_enter Try.func30, Try.ntmps30
  go_wp2
  go_loop [9] (fun s9 => ∃ i : Nat, i ≤ 64 ∧ s9 = .int .i64 i ∧ Hid (∀ k, k < i → (T.sl k).used = true → (T.sl k).tr.num ≠ n)) (fun s9 => 64 - (intOf s9).toNat)
  case atStart => exact ⟨0, by omega, rfl, hide fun k hk => by omega⟩
  case round =>
    obtain ⟨i, hi, rfl, HN⟩ := hrel
    by_cases hi64 : i < 64
    · have hi64i : (i : Int) < 64 := by omega
      obtain ⟨a0, a1, a2, a3, _⟩ := (HT.out.sl i hi64).sl
      cases hu : (T.sl i).used
      · rw [hu] at a0
        have HU := hide hu
        clear hu
        go_wp2
        go_round
        case rel => exact ⟨i + 1, by omega, by simp, hide fun k hk uk => by rcases (by omega : k < i ∨ k = i) with z | rfl; exact HN.out k z uk; rw [HU.out] at uk; cases uk⟩
        case measure => simp [intOf]; omega
      · rw [hu] at a0
        have HU := hide hu
        clear hu
        by_cases hn : (T.sl i).tr.num = n
        · have hnb : ((T.sl i).tr.num == n) = true := by simp [hn]
          have HNN := hide hn
          clear hn
          go_wp2
          exact bodyPost_ret (v := .tuple #[.int .i64 (T.sl i).tg, .bool true]) (by simp [results, Try.results30, go_sem]) rfl ⟨_, _, rfl, Res.some i hi64 HU.out HNN.out, rfl⟩
        · have hnb : ((T.sl i).tr.num == n) = false := by simp [hn]
          have HNN := hide hn
          clear hn
          go_wp2
          go_round
          case rel => exact ⟨i + 1, by omega, by simp, hide fun k hk uk => by rcases (by omega : k < i ∨ k = i) with z | rfl; exact HN.out k z uk; exact HNN.out⟩
          case measure => simp [intOf]; omega
    · obtain rfl : i = 64 := by omega
      rw [show ((64 : Nat) : Int) = 64 from rfl]
      go_wp2
      exact bodyPost_ret (v := .tuple #[.int .i64 (-1), .bool false]) (by simp [results, Try.results30, go_sem]) rfl ⟨_, _, rfl, Res.none HN.out, rfl⟩
theorem resolve_out (w : World) (p : Value) (tm : Int) (htm : tm < 0 ∨ 4 ≤ tm) (n : Int) : Calls Try.prog 30 #[p, .int .i64 tm, .int .i64 n] w (RsPost w (fun t h => t = -1 ∧ h = false)) := by
  go_enter Try.func30, Try.ntmps30
  rcases htm with h | h
  · have h' : decide (tm < 0) = true := by simp [h]
    go_wp2
    exact bodyPost_ret (v := .tuple #[.int .i64 (-1), .bool false]) (by simp [results, Try.results30, go_sem]) rfl ⟨_, _, rfl, ⟨rfl, rfl⟩, rfl⟩
  · have h' : decide (tm < 0) = false := by simp; omega
    have h2 : decide (tm < 4) = false := by simp; omega
    go_wp2
    exact bodyPost_ret (v := .tuple #[.int .i64 (-1), .bool false]) (by simp [results, Try.results30, go_sem]) rfl ⟨_, _, rfl, ⟨rfl, rfl⟩, rfl⟩

/-- What TrackOf tells. -/
inductive Trk1 (T : Tbl) (t : Nat) : Trk → Bool → Prop where
  | some (k : Nat) : k < 64 → T.wh t = k → Trk1 T t (T.sl k).tr true
  | none : T.wh t = -1 → Trk1 T t trk0 false
def ToPost (w : World) (R : Trk → Bool → Prop) (e : Ending) (w' : World) : Prop := ∃ t h, e = .returned (.tuple #[.agg #[.int .i64 t.num, .int .i64 t.x, .int .i64 t.y, .int .i64 t.co, .int .i64 t.sp, .int .i64 t.st, .int .i64 t.ag], .bool h]) ∧ R t h ∧ Below w.heap.size w w'
theorem to_none (w : World) (R : Trk → Bool → Prop) (h : R trk0 false) : ToPost w R (.returned (.tuple #[.agg #[.int .i64 0, .int .i64 0, .int .i64 0, .int .i64 0, .int .i64 0, .int .i64 0, .int .i64 0], .bool false])) (w.alloc (.cells #[.int .i64 0, .int .i64 0, .int .i64 0, .int .i64 0, .int .i64 0, .int .i64 0, .int .i64 0] 51)) := ⟨trk0, false, rfl, h, be1 _ _⟩
set_option maxRecDepth 100000 in
set_option maxHeartbeats 4000000 in
/-- tracks.Board.TrackOf -/
theorem trackOf_any (w : World) (b tm : Nat) (htm : tm < 4) (T : Tbl) (h : TA w b (1 + tm * 754) T) (t : Nat) (ht : t < 112) (hw : T.wh t = -1 ∨ ∃ k : Nat, k < 64 ∧ T.wh t = k) : Calls Try.prog 35 #[.pointer (some ⟨b, 0, none⟩), .int .i64 tm, .int .i64 t] w (ToPost w (Trk1 T t)) := by
  have htmi : (tm : Int) < 4 := by omega
  have htm0 : decide ((tm : Int) < 0) = false := by simp
  have HT := hide h
  clear h
  obtain ⟨o, ho⟩ : ∃ o, 1 + tm * 754 = o := ⟨_, rfl⟩
  rw [ho] at HT
  have hti : (t : Int) < 112 := by omega
  have ht0 : decide ((t : Int) < 0) = false := by simp
  have cw := (HT.out.below (be1 w (.cells #[.int .i64 0, .int .i64 0, .int .i64 0, .int .i64 0, .int .i64 0, .int .i64 0, .int .i64 0] 51))).wh t ht
  rcases hw with hw | ⟨k, hk, hw⟩
  · rw [hw] at cw
    have HW := hide hw
    clear hw
    go_enter Try.func35, Try.ntmps35
    go_wp2
    exact bodyPost_ret (v := .tuple #[.agg #[.int .i64 0, .int .i64 0, .int .i64 0, .int .i64 0, .int .i64 0, .int .i64 0, .int .i64 0], .bool false]) (by simp [results, Try.results35, go_sem]) rfl (to_none w _ (Trk1.none HW.out))
  · rw [hw] at cw
    have HW := hide hw
    have hki : (k : Int) < 64 := by omega
    have hk1 : ((k : Int) == -1) = false := by simp
    obtain ⟨_, _, _, a3, a4, a5, a6, a7, a8, a9⟩ := ((HT.out.below (be1 w (.cells #[.int .i64 0, .int .i64 0, .int .i64 0, .int .i64 0, .int .i64 0, .int .i64 0, .int .i64 0] 51))).sl k hk).sl
    clear hw
    go_enter Try.func35, Try.ntmps35
    go_wp2
    exact bodyPost_ret (v := .tuple #[.agg #[.int .i64 (T.sl k).tr.num, .int .i64 (T.sl k).tr.x, .int .i64 (T.sl k).tr.y, .int .i64 (T.sl k).tr.co, .int .i64 (T.sl k).tr.sp, .int .i64 (T.sl k).tr.st, .int .i64 (T.sl k).tr.ag], .bool true]) (by simp [results, Try.results35, go_sem]) rfl ⟨_, _, rfl, Trk1.some k hk HW.out, be1 _ _⟩
theorem trackOf_out (w : World) (p : Value) (tm t : Int) (htm : (tm < 0 ∨ 4 ≤ tm) ∨ (t < 0 ∨ 112 ≤ t)) : Calls Try.prog 35 #[p, .int .i64 tm, .int .i64 t] w (ToPost w (fun _ h => h = false)) := by
  go_enter Try.func35, Try.ntmps35
  by_cases h1 : tm < 0
  · have h1' : decide (tm < 0) = true := by simp [h1]
    go_wp2
    exact bodyPost_ret (v := .tuple #[.agg #[.int .i64 0, .int .i64 0, .int .i64 0, .int .i64 0, .int .i64 0, .int .i64 0, .int .i64 0], .bool false]) (by simp [results, Try.results35, go_sem]) rfl (to_none w _ rfl)
  · have h1' : decide (tm < 0) = false := by simp; omega
    by_cases h2 : 4 ≤ tm
    · have h2' : decide (tm < 4) = false := by simp; omega
      go_wp2
      exact bodyPost_ret (v := .tuple #[.agg #[.int .i64 0, .int .i64 0, .int .i64 0, .int .i64 0, .int .i64 0, .int .i64 0, .int .i64 0], .bool false]) (by simp [results, Try.results35, go_sem]) rfl (to_none w _ rfl)
    · have h2' : tm < 4 := by omega
      by_cases h3 : t < 0
      · have h3' : decide (t < 0) = true := by simp [h3]
        go_wp2
        exact bodyPost_ret (v := .tuple #[.agg #[.int .i64 0, .int .i64 0, .int .i64 0, .int .i64 0, .int .i64 0, .int .i64 0, .int .i64 0], .bool false]) (by simp [results, Try.results35, go_sem]) rfl (to_none w _ rfl)
      · have h3' : decide (t < 0) = false := by simp; omega
        have h4 : 112 ≤ t := by omega
        have h4' : ¬ t < 112 := by omega
        go_wp2
        exact bodyPost_ret (v := .tuple #[.agg #[.int .i64 0, .int .i64 0, .int .i64 0, .int .i64 0, .int .i64 0, .int .i64 0, .int .i64 0], .bool false]) (by simp [results, Try.results35, go_sem]) rfl (to_none w _ rfl)
/-- What find tells. -/
inductive Fnd (L : List Trk) (n : Int) : Int → Prop where
  | some (k : Nat) (d : Trk) : L[k]? = some d → d.num = n → Fnd L n k
  | none : (∀ d ∈ L, d.num ≠ n) → Fnd L n (-1)
def FnPost (w : World) (R : Int → Prop) (e : Ending) (w' : World) : Prop := ∃ t, e = .returned (.int .i64 t) ∧ R t ∧ w' = w
theorem TRow.get {w : World} {B n c : Nat} {a : Option Addr} {L : List Trk} (h : TRow w B (.slice a n c) L) (hn : n = L.length) {i : Nat} {t : Trk} (hi : L[i]? = some t) : ∃ g, a = some ⟨g, 0, none⟩ ∧ RA w g (i * 7) t.vals := by
  subst hn
  obtain ⟨g, c9, e⟩ := own_some h (by have := (List.getElem?_eq_some_iff.1 hi).1; omega)
  cases e
  exact ⟨g, rfl, h.at hi⟩
set_option maxHeartbeats 2000000 in
/-- trackslaw.find -/
theorem find_any (w : World) (B n c : Nat) (a : Option Addr) (L : List Trk) (h : TRow w B (.slice a n c) L) (hn : n = L.length) (hl : n ≤ 64) (m : Int) : Calls Try.prog 27 #[.slice a n c, .int .i64 m] w (FnPost w (Fnd L m)) := by
  have HR := hide h
  have HN := hide hn
  clear h hn
  go_enter Try.func27, Try.ntmps27
  go_wp2
  go_loop [5] (fun s5 => ∃ i : Nat, i ≤ n ∧ s5 = .int .i64 i ∧ Hid (∀ (k : Nat) (d : Trk), k < i → L[k]? = some d → d.num ≠ m)) (fun s5 => n - (intOf s5).toNat)
  case atStart => exact ⟨0, by omega, rfl, hide fun k d hk => by omega⟩
  case round =>
    obtain ⟨i, hi, rfl, HZ⟩ := hrel
    by_cases hin : i < n
    · have hini : (i : Int) < (n : Int) := by omega
      obtain ⟨d, hd⟩ : ∃ d, L[i]? = some d := ⟨_, List.getElem?_eq_getElem (by have := HN.out; omega)⟩
      obtain ⟨g, rfl, hra⟩ := HR.out.get HN.out hd
      have c0 := hra.tt.1
      have HD := hide hd
      clear hd hra
      by_cases hm : d.num = m
      · have hmb : (d.num == m) = true := by simp [hm]
        have HM := hide hm
        clear hm
        go_wp2
        go_ret
        exact ⟨_, rfl, Fnd.some i d HD.out HM.out, rfl⟩
      · have hmb : (d.num == m) = false := by simp [hm]
        have HM := hide hm
        clear hm
        go_wp2
        go_round
        case rel => exact ⟨i + 1, by omega, by simp, hide fun k e hk he => by rcases (by omega : k < i ∨ k = i) with z | rfl; exact HZ.out k e z he; rw [HD.out] at he; cases he; exact HM.out⟩
        case measure => simp [intOf]; omega
    · have hini : ¬ (i : Int) < (n : Int) := by omega
      have HF := hide (show Fnd L m (-1) from Fnd.none fun d hd => by
        obtain ⟨k, hk⟩ := List.mem_iff_getElem?.1 hd
        have := (List.getElem?_eq_some_iff.1 hk).1
        exact HZ.out k d (by have := HN.out; omega) hk)
      go_wp2
      go_ret
      exact ⟨_, rfl, HF.out, rfl⟩
set_option maxRecDepth 100000 in
set_option maxHeartbeats 2000000 in
/-- trackslaw.same, of equal tables. -/
theorem same_any (w : World) (b1 b2 : Nat) (a1 a2 : Option Addr) (n c1 c2 : Nat) (L : List Trk) (h1 : TRow w b1 (.slice a1 n c1) L) (h2 : TRow w b2 (.slice a2 n c2) L) (hn : n = L.length) (hl : n ≤ 64) :
    Calls Try.prog 23 #[.slice a1 n c1, .slice a2 n c2] w fun e w' => e = .returned (.bool true) ∧ Below w.heap.size w w' := by
  have H1 := hide h1
  have H2 := hide h2
  have HN := hide hn
  clear h1 h2 hn
  go_enter Try.func23, Try.ntmps23
  go_wp2
  go_loopw [5] (fun x wr => ∃ j : Nat, j ≤ n ∧ x = .int .i64 j ∧ Below w.heap.size w wr) (fun x _ => n - (intOf x).toNat)
  case atStart => exact ⟨0, by omega, rfl, Below.refl _ _⟩
  case round =>
    obtain ⟨j, hj, rfl, hb⟩ := hrel
    have HB := hide hb
    have R1 := H1.out.below hb
    have R2 := H2.out.below hb
    clear hb
    by_cases hlt : j < n
    · have hlti : (j : Int) < (n : Int) := by omega
      obtain ⟨d, hd⟩ : ∃ d, L[j]? = some d := ⟨_, List.getElem?_eq_getElem (by have := HN.out; omega)⟩
      obtain ⟨g, rfl, q1⟩ := R1.get HN.out hd
      obtain ⟨g2, rfl, q2⟩ := R2.get HN.out hd
      obtain ⟨p0, p1, p2, p3, p4, p5, p6⟩ := q1.tt
      obtain ⟨r0, r1, r2, r3, r4, r5, r6⟩ := q2.tt
      clear hd R1 R2 q1 q2
      go_upto_region 6 with fail
      go_quiet (fail)
      clear p0 p1 p2 p3 p4 p5 p6 r0 r1 r2 r3 r4 r5 r6
      go_wp2
      go_roundw
      case rel => exact ⟨j + 1, by omega, by simp, lec HB.out (belN _ _)⟩
      case measure => simp [intOf]; omega
    · have hlti : ¬ (j : Int) < (n : Int) := by omega
      clear R1 R2
      go_wp2
      go_ret
      exact ⟨rfl, HB.out⟩
end Go.Proofs.Qxb6500777a
