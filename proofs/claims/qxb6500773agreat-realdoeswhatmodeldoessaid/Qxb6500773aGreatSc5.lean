import Derived.Test.Qxb6500773aGreatSc4
import Derived.Laws.BitsLemmas
namespace Go.Proofs.Qxb6500773aGreat
open Go.RowKit

theorem or_one (v : Int) (h : 0 ≤ v ∧ v ≤ 16777215) : bits BinOp.or .i32 (v * 2) 1 = 2 * v + 1 := by
  rw [bits_join .i32 31 (by decide) wraps_i32 1 (v * 2) 1 (by omega) (by omega) (by omega) (by omega) (by omega) (by omega)]
  omega
theorem and_one (v : Int) (h : 0 ≤ v ∧ v ≤ 2147483647) : bits BinOp.and .i32 v 1 = v % 2 := by
  have := bits_mask .i32 31 (by decide) wraps_i32 1 (by decide) v h.1 (by omega)
  simpa using this
set_option maxHeartbeats 2000000 in
/-- cnf.MkLit -/
theorem mkLit_any (w : World) (v : Int) (ng : Bool) (hv : 0 ≤ v ∧ v ≤ 16777215) : Calls Tryz.prog 104 #[.int .i32 v, .bool ng] w fun e w' => e = .returned (.int .i32 (2 * v + if ng = true then 1 else 0)) ∧ w' = w := by
  cases ng
  · go_enter Tryz.func104, Tryz.ntmps104
    go_wp2
    go_ret
    exact ⟨by simp; omega, rfl⟩
  · have h1 := or_one v hv
    go_enter Tryz.func104, Tryz.ntmps104
    go_wp2
    go_ret
    exact ⟨by simp, rfl⟩
/-- The literal that DIMACS writes as d. -/
def packP (d : Int) : Int := if d < 0 then 2 * (-d) + 1 else 2 * d
/-- FromDimacs: literal and failure. -/
def fromP (d : Int) : Int × Int := if d = 0 then (0, 1) else if 16777215 < d ∨ d < -16777215 then (0, 2) else (packP d, 0)
set_option linter.unusedSimpArgs false in
set_option maxHeartbeats 2000000 in
/-- cnf.FromDimacs -/
theorem fromDimacs_any (w : World) (d : Int) : Calls Tryz.prog 33 #[.int .i64 d] w fun e w' => e = .returned (.tuple #[.int .i32 (fromP d).1, .int .i64 (fromP d).2]) ∧ w' = w := by
  obtain ⟨R, hR⟩ : ∃ R, fromP d = R := ⟨_, rfl⟩
  rw [hR]
  have HR := hide hR
  clear hR
  by_cases h0 : d = 0
  · obtain rfl : (0, 1) = R := by rw [← HR.out, fromP, if_pos h0]
    have h0b : (d == 0) = true := by simpa using h0
    clear h0 HR
    go_enter Tryz.func33, Tryz.ntmps33
    go_wp2
    exact bodyPost_ret (v := .tuple #[.int .i32 0, .int .i64 1]) (by simp [results, Tryz.results33, go_sem]) rfl ⟨rfl, rfl⟩
  · have h0b : (d == 0) = false := by simpa using h0
    by_cases h1 : 16777215 < d
    · obtain rfl : (0, 2) = R := by rw [← HR.out, fromP, if_neg h0, if_pos (.inl h1)]
      clear h0 HR
      go_enter Tryz.func33, Tryz.ntmps33
      go_wp2
      exact bodyPost_ret (v := .tuple #[.int .i32 0, .int .i64 2]) (by simp [results, Tryz.results33, go_sem]) rfl ⟨rfl, rfl⟩
    · have h1b : decide (16777215 < d) = false := by simpa using h1
      by_cases h2 : d < -16777215
      · have h2b : decide (d < -16777215) = true := by simpa using h2
        obtain rfl : (0, 2) = R := by rw [← HR.out, fromP, if_neg h0, if_pos (.inr h2)]
        clear h0 HR
        go_enter Tryz.func33, Tryz.ntmps33
        go_wp2
        exact bodyPost_ret (v := .tuple #[.int .i32 0, .int .i64 2]) (by simp [results, Tryz.results33, go_sem]) rfl ⟨rfl, rfl⟩
      · have h2b : decide (d < -16777215) = false := by simpa using h2
        obtain rfl : (packP d, 0) = R := by rw [← HR.out, fromP, if_neg h0, if_neg (by omega)]
        by_cases h3 : d < 0
        · have h3b : decide (d < 0) = true := by simpa using h3
          have w1 : IntKind.i64.wrap (-d) = -d := by rw [IntKind.wrap_i64]; omega
          have w2 : IntKind.i32.wrap (-d) = -d := by rw [IntKind.wrap_i32]; omega
          have HP := hide (show packP d = 2 * (-d) + (if true = true then 1 else 0) by rw [packP, if_pos h3, if_pos rfl])
          have hm := hide (mkLit_any w (-d) true (by omega))
          clear h0 HR h3
          go_enter Tryz.func33, Tryz.ntmps33
          go_wp2_with fail
          refine hm.out.mono ?_
          rintro e w' ⟨rfl, rfl⟩
          rw [← HP.out]
          go_wp2
          exact bodyPost_ret (v := .tuple #[.int .i32 (packP d), .int .i64 0]) (by simp [results, Tryz.results33, go_sem]) rfl ⟨rfl, rfl⟩
        · have h3b : decide (d < 0) = false := by simpa using h3
          have w2 : IntKind.i32.wrap d = d := by rw [IntKind.wrap_i32]; omega
          have HP := hide (show packP d = 2 * d + (if false = true then 1 else 0) by rw [packP, if_neg h3, if_neg (by decide), Int.add_zero])
          have hm := hide (mkLit_any w d false (by omega))
          clear h0 HR h3
          go_enter Tryz.func33, Tryz.ntmps33
          go_wp2_with fail
          refine hm.out.mono ?_
          rintro e w' ⟨rfl, rfl⟩
          rw [← HP.out]
          go_wp2
          exact bodyPost_ret (v := .tuple #[.int .i32 (packP d), .int .i64 0]) (by simp [results, Tryz.results33, go_sem]) rfl ⟨rfl, rfl⟩
/-- What literal answers: literal and failure. -/
def litP (R : Int × Int) : Int × Int := if R.2 = 0 then (0, 9) else if R.2 = 1 then (0, 2) else if R.1 = 0 then (0, 0) else fromP R.1
def LiPost (w : World) (s : Nat) (a : Option Addr) (n c : Nat) (T : Nat → Int) (off : Nat) (line : Int) (bol : Nat) (e : Nat) (R : Int × Int) (en : Ending) (w' : World) : Prop := en = .returned (.tuple #[.int .i32 (litP R).1, .int .i64 (litP R).2]) ∧ SC w' s a n c T (if R.2 = 2 then e else off) line bol ∧ Ex (fun k => k = s) w w'
set_option linter.unusedSimpArgs false in
set_option maxHeartbeats 2000000 in
/-- cnf.scanner.literal -/
theorem literal_any (w : World) (s n c off bol : Nat) (a : Option Addr) (T : Nat → Int) (line : Int) (h : SC w s a n c T off line bol) (hn : n ≤ 4611686018427387904) (ho : off ≤ n) :
    Calls Tryz.prog 118 #[.pointer (some ⟨s, 0, none⟩)] w (LiPost w s a n c T off line bol (tokE T n (n - off) off) (numP T off (tokE T n (n - off) off) 16777215 true)) := by
  have ct := hide (number_any w s n c off bol a T line 16777215 true h hn ho (by decide))
  obtain ⟨e, he⟩ : ∃ e, tokE T n (n - off) off = e := ⟨_, rfl⟩
  rw [he] at ct ⊢
  clear he h
  obtain ⟨R, hR⟩ : ∃ R, numP T off e 16777215 true = R := ⟨_, rfl⟩
  rw [hR] at ct ⊢
  clear hR
  go_enter Tryz.func118, Tryz.ntmps118
  go_wp2_with fail
  refine ct.out.mono ?_
  rintro en w' ⟨rfl, hsc, hex⟩
  have HP := hide (show ∀ X : Int × Int, litP R = X → LiPost w s a n c T off line bol e R (.returned (.tuple #[.int .i32 X.1, .int .i64 X.2])) w' from fun X hX => ⟨by rw [hX], hsc, hex⟩)
  have HL := hide (show litP R = if R.2 = 0 then (0, 9) else if R.2 = 1 then (0, 2) else if R.1 = 0 then (0, 0) else fromP R.1 from rfl)
  clear hsc hex ct
  obtain ⟨v, cl⟩ := R
  dsimp only at HL ⊢
  by_cases h0 : cl = 0
  · have h0b : (cl == 0) = true := by simpa using h0
    have HQ := hide (HP.out (0, 9) (by rw [HL.out, if_pos h0]))
    clear h0
    go_wp2
    exact bodyPost_ret (v := .tuple #[.int .i32 0, .int .i64 9]) (by simp [results, Tryz.results118, go_sem]) rfl HQ.out
  · have h0b : (cl == 0) = false := by simpa using h0
    by_cases h1 : cl = 1
    · have h1b : (cl == 1) = true := by simpa using h1
      have HQ := hide (HP.out (0, 2) (by rw [HL.out, if_neg h0, if_pos h1]))
      clear h0 h1
      go_wp2
      exact bodyPost_ret (v := .tuple #[.int .i32 0, .int .i64 2]) (by simp [results, Tryz.results118, go_sem]) rfl HQ.out
    · have h1b : (cl == 1) = false := by simpa using h1
      by_cases h2 : v = 0
      · have h2b : (v == 0) = true := by simpa using h2
        have HQ := hide (HP.out (0, 0) (by rw [HL.out, if_neg h0, if_neg h1, if_pos h2]))
        clear h0 h1 h2
        go_wp2
        exact bodyPost_ret (v := .tuple #[.int .i32 0, .int .i64 0]) (by simp [results, Tryz.results118, go_sem]) rfl HQ.out
      · have h2b : (v == 0) = false := by simpa using h2
        have HQ := hide (HP.out (fromP v) (by rw [HL.out, if_neg h0, if_neg h1, if_neg h2]))
        clear h0 h1 h2
        go_wp2_with fail
        refine (fromDimacs_any _ v).mono ?_
        rintro en w'' ⟨rfl, rfl⟩
        go_wp2
        exact bodyPost_ret (v := .tuple #[.int .i32 (fromP v).1, .int .i64 (fromP v).2]) (by simp [results, Tryz.results118, go_sem]) rfl HQ.out
def FaPost (w : World) (v : Value) (e : Ending) (w' : World) : Prop := e = .returned v ∧ Below w.heap.size w w'
set_option linter.unusedSimpArgs false in
set_option maxHeartbeats 2000000 in
/-- cnf.scanner.fault -/
theorem fault_any (w : World) (s n c off bol : Nat) (a : Option Addr) (T : Nat → Int) (line er : Int) (h : SC w s a n c T off line bol) (hn : n ≤ 4611686018427387904) (ho : off ≤ n) (hb : bol ≤ off) :
    Calls Tryz.prog 117 #[.pointer (some ⟨s, 0, none⟩), .int .i64 er] w (FaPost w (.agg #[.int .i64 er, .int .i64 line, .int .i64 ((off : Int) - bol + 1)])) := by
  have c1 := h.c1
  have c2 := h.c2
  have c3 := h.c3
  have hs : s < w.heap.size := h.lt
  have w1 : IntKind.i64.wrap ((off : Int) - bol) = (off : Int) - bol := by rw [IntKind.wrap_i64]; omega
  have w2 : IntKind.i64.wrap ((off : Int) - bol + 1) = (off : Int) - bol + 1 := by rw [IntKind.wrap_i64]; omega
  clear h
  go_enter Tryz.func117, Tryz.ntmps117
  go_wp2
  go_region
  go_wp2
  exact bodyPost_ret (v := .agg #[.int .i64 er, .int .i64 line, .int .i64 ((off : Int) - bol + 1)]) (by simp [results, Tryz.results117, go_sem]) rfl ⟨rfl, (be1 w _).trans ((Below.refl _ _).drew)⟩
def wordB (T : Nat → Int) (off e : Nat) (d : List Nat) : Bool := decide (e - off = d.length) && decide (∀ i, i < d.length → T (off + i) = d.getD i 0)
def WoPost (w : World) (s : Nat) (a : Option Addr) (n c : Nat) (T : Nat → Int) (off : Nat) (line : Int) (bol : Nat) (e : Nat) (b : Bool) (en : Ending) (w' : World) : Prop := en = .returned (.bool b) ∧ SC w' s a n c T (if b = true then e else off) line bol ∧ Ex (fun k => k = s) w w'
set_option linter.unusedSimpArgs false in
set_option maxHeartbeats 2000000 in
/-- cnf.scanner.word -/
theorem word_any (w : World) (s n c off bol : Nat) (a : Option Addr) (T : Nat → Int) (line : Int) (d : ByteArray) (hd : d.size ≤ 8) (h : SC w s a n c T off line bol) (hn : n ≤ 4611686018427387904) (ho : off ≤ n) :
    Calls Tryz.prog 126 #[.pointer (some ⟨s, 0, none⟩), .string d] w (WoPost w s a n c T off line bol (tokE T n (n - off) off) (wordB T off (tokE T n (n - off) off) (d.data.toList.map UInt8.toNat))) := by
  have HS := hide h
  have HR := hide (tokE_rng T n (n - off) off ho)
  have ct := hide (tokenEnd_any w s n c off bol a T line h hn ho)
  obtain ⟨e, he⟩ : ∃ e, tokE T n (n - off) off = e := ⟨_, rfl⟩
  rw [he] at HR ct ⊢
  clear he h
  have hoe := HR.out.1
  have hen := HR.out.2
  clear HR
  have c0 := HS.out.c0
  have c1 := HS.out.c1
  obtain ⟨b, hb⟩ : ∃ b, wordB T off e (d.data.toList.map UInt8.toNat) = b := ⟨_, rfl⟩
  rw [hb]
  have HB := hide hb
  clear hb
  go_enter Tryz.func126, Tryz.ntmps126
  go_wp2_with fail
  refine ct.out.mono ?_
  rintro en w' ⟨rfl, rfl⟩
  clear ct
  have hsz : (d.data.toList.map UInt8.toNat).length = d.size := by simp
  have w1 : IntKind.i64.wrap ((e : Int) - off) = (e : Int) - off := by rw [IntKind.wrap_i64]; omega
  by_cases h1 : e - off = d.size
  · have h1b : ((e : Int) - off != d.size) = false := by simp; omega
    clear h1b
    go_wp2
    have HS0 := HS
    go_loopw [6] (fun s6 wr => ∃ i : Nat, i ≤ d.size ∧ s6 = .int .i64 i ∧ Hid (∀ j, j < i → T (off + j) = ((d.data.toList.map UInt8.toNat).getD j 0 : Nat)) ∧ SC wr s a n c T off line bol ∧ Ex (fun k => k = s) w' wr) (fun s6 _ => d.size - (intOf s6).toNat)
    case atStart => exact ⟨0, Nat.zero_le _, rfl, hide (fun j hj => absurd hj (by omega)), HS.out, Ex.refl _ _⟩
    case round =>
      clear HS0 c0 c1 HS
      obtain ⟨i, hi, rfl, HI, hsc, hex⟩ := hrel
      have HS := hide hsc
      have HX := hide hex
      have c0 := HS.out.c0
      have c1 := HS.out.c1
      have hf := HS.out.f
      clear hsc hex
      by_cases hlt : i < d.size
      · have hlti : decide ((i : Int) < (d.size : Int)) = true := by simpa using hlt
        have hi0 : decide ((i : Int) < 0) = false := by simp
        have hlti2 : (i : Int) < (d.size : Int) := by omega
        have hoi : IntKind.i64.wrap ((off : Int) + i) = ((off + i : Nat) : Int) := by rw [IntKind.wrap_i64]; omega
        have hoi2 : ((off + i : Nat) : Int) < (n : Int) := by omega
        obtain ⟨g, o, ea, cb, hb⟩ := HS.out.bt (off + i) (by omega)
        cases ea
        have hdi : (d.data.toList.map UInt8.toNat).getD i 0 = d[i].toNat := by
          rw [List.getD_eq_getElem?_getD, List.getElem?_map, List.getElem?_eq_getElem (by simpa using hlt)]
          rfl
        obtain ⟨x, hx⟩ : ∃ x, d[i].toNat = x := ⟨_, rfl⟩
        cases hne : (T (off + i) != (d[i].toNat : Int))
        · have HI2 := hide (show ∀ j, j < i + 1 → T (off + j) = ((d.data.toList.map UInt8.toNat).getD j 0 : Nat) from fun j hj => by
            by_cases e : j = i
            · subst e; rw [hdi]; simpa using hne
            · exact HI.out j (by omega))
          clear hdi HI hx
          go_upto_region 7 with fail
          go_quiet (fail)
          rename_i nq
          have HS2 := hide (HS.out.below (belN _ nq))
          have HX2 := hide (HX.out.drewN nq)
          generalize World.drewN wr nq = w2 at *
          clear HS HX c0 c1 hf cb
          go_wp2
          go_roundw
          case rel => exact ⟨i + 1, by omega, by simp, HI2, HS2.out, HX2.out⟩
          case measure => simp [intOf]; omega
        · obtain rfl : false = b := by
            rw [← HB.out]
            simp [wordB]
            intro _
            refine ⟨i, hlt, ?_⟩
            intro z
            simp at hne
            exact hne (by rw [z]; simp at hdi; rw [hdi])
          clear hdi HI hx
          go_upto_region 7 with fail
          go_quiet (fail)
          rename_i nq
          have HS2 := hide (HS.out.below (belN _ nq))
          have HX2 := hide (HX.out.drewN nq)
          generalize World.drewN wr nq = w2 at *
          clear HS HX c0 c1 hf cb
          go_wp2
          go_ret
          exact ⟨rfl, HS2.out, HX2.out⟩
      · obtain rfl : i = d.size := by omega
        have hlti : decide ((d.size : Int) < (d.size : Int)) = false := by simp
        have HO := HS.out.setOff e
        obtain rfl : true = b := by
          rw [← HB.out]
          simp only [wordB, hsz]
          simp only [h1, Bool.and_eq_true, decide_true, true_and, Bool.true_and]
          exact (decide_eq_true HI.out).symm
        go_wp2
        go_ret
        exact ⟨rfl, HO.1, HX.out.trans HO.2⟩
  · have h1b : ((e : Int) - off != d.size) = true := by simp; omega
    obtain rfl : false = b := by rw [← HB.out]; simp [wordB]; intro z; omega
    go_wp2
    go_ret
    exact ⟨rfl, HS.out, Ex.refl _ _⟩
end Go.Proofs.Qxb6500773aGreat
