import Derived.Test.Qxb6500784aDn
namespace Go.Proofs.Qxb6500784a
open Go.RowKit

/-! ### A new pair -/
def led0 (c : Int) : Led0 := ⟨c, List.replicate 256 0, List.replicate 64 0, [], false, 0, 0⟩
def box0 (c : Int) : Box0 := ⟨c, [], [], 0⟩
def prZ (a b c d e : Int) : Pr := ⟨led0 a, [], led0 b, [], box0 c, [], box0 d, [], box0 e, []⟩
def prV (P : Pr) : List Value := P.la.vals nilS nilS ++ (P.lb.vals nilS nilS ++ (P.ba.vals nilS nilS nilS ++ (P.bb.vals nilS nilS nilS ++ P.b1.vals nilS nilS nilS)))
theorem built_pr : Try.prog.built 118 [] = some (prV (prZ 0 0 0 0 0)).toArray := by kernel_rfl
theorem prV_len : (prV (prZ 0 0 0 0 0)).length = 667 := by kernel_rfl
theorem prV_set : (((((prV (prZ 0 0 0 0 0)).set 0 (.int .u8 1)).set 326 (.int .u8 2)).set 652 (.int .u8 1)).set 657 (.int .u8 2)).set 662 (.int .u8 3) = prV (prZ 1 2 1 2 3) := by kernel_rfl
theorem prV_at : (prV (prZ 0 0 0 0 0))[0]? = some (.int .u8 0) ∧ (prV (prZ 0 0 0 0 0))[326]? = some (.int .u8 0) ∧ (prV (prZ 0 0 0 0 0))[652]? = some (.int .u8 0) ∧ (prV (prZ 0 0 0 0 0))[657]? = some (.int .u8 0) ∧ (prV (prZ 0 0 0 0 0))[662]? = some (.int .u8 0) := ⟨by kernel_rfl, by kernel_rfl, by kernel_rfl, by kernel_rfl, by kernel_rfl⟩
theorem led0_ok {c : Int} (h : 0 ≤ c ∧ c < 256) : (led0 c).Ok := by
  have z : ∀ (n : Nat) (x : Int), x ∈ List.replicate n 0 → 0 ≤ x ∧ x < m64 := fun n x hx => by rw [List.eq_of_mem_replicate hx]; exact ⟨by decide, by decide⟩
  exact ⟨List.length_replicate, List.length_replicate, h, z 256, z 64, fun p hp => absurd hp (List.not_mem_nil), ⟨by show (0 : Int) ≤ 0; decide, by show (0 : Int) < m64; decide, by show (0 : Int) ≤ 0; decide, by show (0 : Int) < m64; decide⟩⟩
theorem box0_ok {c : Int} (h : 0 ≤ c ∧ c < 256) : (box0 c).Ok := ⟨h, ⟨by show (0 : Int) ≤ 0; omega, by show (0 : Int) ≤ 32; omega⟩, fun m hm => absurd hm (by simp [box0]), fun m hm => absurd hm (by simp [box0])⟩
theorem la_new {w : World} {b o : Nat} {l : Led0} (hr : w.rangeAt b o (l.vals nilS nilS)) (ht : w.there b o 326) (hm : l.mks = []) (hk : l.Ok) (hb : b < w.heap.size) : LA w b o l [] [] := by
  refine ⟨[], nilS, nilS, rfl, ⟨⟨⟨rfl, fun i r v hr hv => ?_⟩, World.ownsRow_nil _ _ _ _, fun p hp => (by cases hp), List.nodup_nil⟩, hr, ht, rfl⟩, hk, fun x hx => (by cases hx), hb, by simp⟩
  cases i with
  | zero =>
    simp only [Led0.fl, hm, List.getElem?_cons_zero] at hr hv
    injection hr with hr
    injection hv with hv
    subst hr hv
    exact World.ownsRow_nil _ _ _ _
  | succ i => simp [Led0.fl] at hr
theorem ba_new {w : World} {b o : Nat} {x : Box0} (hr : w.rangeAt b o (x.vals nilS nilS nilS)) (ht : w.there b o 5) (h1 : x.out = []) (h2 : x.inb = []) (hk : x.Ok) (hb : b < w.heap.size) : BA w b o x [] [] := by
  refine ⟨[], nilS, nilS, nilS, rfl, ⟨⟨⟨rfl, fun i r v hr hv => ?_⟩, World.ownsRow_nil _ _ _ _, fun p hp => (by cases hp), List.nodup_nil⟩, hr, ht, rfl⟩, hk, fun x hx => (by cases hx), hb, by simp⟩
  match i, hr, hv with
  | 0, hr, hv =>
    simp only [Box0.fl, h1, List.getElem?_cons_zero] at hr hv
    injection hr with hr
    injection hv with hv
    subst hr hv
    exact World.ownsRow_nil _ _ _ _
  | 1, hr, hv =>
    simp only [Box0.fl, h2, List.getElem?_cons_zero, List.getElem?_cons_succ] at hr hv
    injection hr with hr
    injection hv with hv
    subst hr hv
    exact World.ownsRow_nil _ _ _ _
  | i + 2, hr, _ => simp [Box0.fl] at hr
theorem range_app {w : World} {b o : Nat} {A B : List Value} (h : w.rangeAt b o (A ++ B)) : w.rangeAt b o A ∧ w.rangeAt b (o + A.length) B := by
  refine ⟨fun j v hv => h j v ?_, fun j v hv => ?_⟩
  · rw [List.getElem?_append_left (List.getElem?_eq_some_iff.1 hv).1]; exact hv
  · have := h (A.length + j) v (by rw [List.getElem?_append_right (by omega), Nat.add_sub_cancel_left]; exact hv)
    rwa [← Nat.add_assoc] at this
theorem there_part {w : World} {b k : Nat} (h : w.there b 0 k) {o m : Nat} (hm : o + m ≤ k) : w.there b o m := fun j hj => by
  have := h (o + j) (by omega)
  rwa [Nat.zero_add] at this
theorem pp_new {w : World} {b : Nat} (hr : w.rangeAt b 0 (prV (prZ 1 2 1 2 3))) (ht : w.there b 0 667) (hb : b < w.heap.size) : PP w b (prZ 1 2 1 2 3) [] := by
  obtain ⟨r1, q1⟩ := range_app hr
  obtain ⟨r2, q2⟩ := range_app q1
  obtain ⟨r3, q3⟩ := range_app q2
  obtain ⟨r4, r5⟩ := range_app q3
  rw [show (0 : Nat) + ((prZ 1 2 1 2 3).la.vals nilS nilS).length = 326 by kernel_rfl] at r2 q2 q3 r3 r4 r5
  rw [show 326 + ((prZ 1 2 1 2 3).lb.vals nilS nilS).length = 652 by kernel_rfl] at q3 r3 r4 r5
  rw [show 652 + ((prZ 1 2 1 2 3).ba.vals nilS nilS nilS).length = 657 by kernel_rfl] at r4 r5
  rw [show 657 + ((prZ 1 2 1 2 3).bb.vals nilS nilS nilS).length = 662 by kernel_rfl] at r5
  refine ⟨fun _ => [], ⟨la_new r1 (there_part ht (by omega)) rfl (led0_ok (by omega)) hb, la_new r2 (there_part ht (by omega)) rfl (led0_ok (by omega)) hb, ba_new r3 (there_part ht (by omega)) rfl rfl (box0_ok (by omega)) hb, ba_new r4 (there_part ht (by omega)) rfl rfl (box0_ok (by omega)) hb, ba_new r5 (there_part ht (by omega)) rfl rfl (box0_ok (by omega)) hb, fun i j _ _ _ k hk => (by cases hk)⟩, rfl⟩
def pr0 : Pr := { prZ 1 2 1 2 3 with la := { led0 1 with opn := true, gl := 10000, gu := 0 }, lb := { led0 2 with opn := true, gl := 10000, gu := 0 } }
set_option linter.unusedSimpArgs false in
set_option maxRecDepth 100000 in
set_option maxHeartbeats 8000000 in
/-- bundle.NewPair -/
theorem newPair_any (w : World) :
    Calls Try.prog 48 #[.int .u64 10000] w fun e w' => e = .returned (.tuple #[.pointer (some ⟨w.heap.size, 0, none⟩), .int .i64 0]) ∧ ∃ S', PP w' w.heap.size pr0 S' ∧ Below w.heap.size w w' ∧ ∀ k, k ∈ S' → w.heap.size ≤ k := by
  obtain ⟨Z, hZ⟩ : ∃ Z, prV (prZ 0 0 0 0 0) = Z := ⟨_, rfl⟩
  have HB := hide built_pr
  have HZl := hide prV_len
  have HZS := hide prV_set
  have HZA := hide prV_at
  rw [hZ] at HB HZl HZS HZA
  clear hZ
  go_enter Try.func48, Try.ntmps48
  go_upto_region 1 with fail
  refine wp_region_lit ?_
  refine wpL_build rfl 118 [] rfl Z.toArray (by exact HB.out) ?_
  go_upto_region 2 with fail
  have HBE := hide (be1 w (.cells Z.toArray 118))
  have HR := hide (newR w Z 118)
  have HT := hide (newT w Z 118)
  rw [HZl.out] at HT
  have HSZ : Hid ((w.alloc (.cells Z.toArray 118)).heap.size = w.heap.size + 1) := by simp [Hid]
  obtain ⟨D, hD⟩ : ∃ D, w.heap.size = D := ⟨_, rfl⟩
  have HD := hide hD
  rw [hD] at HR HT HSZ ⊢
  clear hD
  generalize w.alloc (.cells Z.toArray 118) = w1 at *
  have c0 : w1.cell? ⟨D, 0, none⟩ = some (.int .u8 0) := by have := HR.out 0 _ HZA.out.1; rwa [Nat.zero_add] at this
  have f0 : w1.frozen? ⟨D, 0, none⟩ = false := by have := (HT.out 0 (by omega)).2; rwa [Nat.zero_add] at this
  have c1 : w1.cell? ⟨D, 326, none⟩ = some (.int .u8 0) := by have := HR.out 326 _ HZA.out.2.1; rwa [Nat.zero_add] at this
  have f1 : w1.frozen? ⟨D, 326, none⟩ = false := by have := (HT.out 326 (by omega)).2; rwa [Nat.zero_add] at this
  have c2 : w1.cell? ⟨D, 652, none⟩ = some (.int .u8 0) := by have := HR.out 652 _ HZA.out.2.2.1; rwa [Nat.zero_add] at this
  have f2 : w1.frozen? ⟨D, 652, none⟩ = false := by have := (HT.out 652 (by omega)).2; rwa [Nat.zero_add] at this
  have c3 : w1.cell? ⟨D, 657, none⟩ = some (.int .u8 0) := by have := HR.out 657 _ HZA.out.2.2.2.1; rwa [Nat.zero_add] at this
  have f3 : w1.frozen? ⟨D, 657, none⟩ = false := by have := (HT.out 657 (by omega)).2; rwa [Nat.zero_add] at this
  have c4 : w1.cell? ⟨D, 662, none⟩ = some (.int .u8 0) := by have := HR.out 662 _ HZA.out.2.2.2.2; rwa [Nat.zero_add] at this
  have f4 : w1.frozen? ⟨D, 662, none⟩ = false := by have := (HT.out 662 (by omega)).2; rwa [Nat.zero_add] at this
  go_upto_region 7 with fail
  have HPN : Hid (PP (((((w1.setCell ⟨D, 0, none⟩ (.int .u8 1)).setCell ⟨D, 326, none⟩ (.int .u8 2)).setCell ⟨D, 652, none⟩ (.int .u8 1)).setCell ⟨D, 657, none⟩ (.int .u8 2)).setCell ⟨D, 662, none⟩ (.int .u8 3)) D (prZ 1 2 1 2 3) []) := by
    have r := (range_set (range_set (range_set (range_set (range_set HR.out 0 (.int .u8 1)) 326 (.int .u8 2)) 652 (.int .u8 1)) 657 (.int .u8 2)) 662 (.int .u8 3))
    simp only [Nat.zero_add] at r
    rw [HZS.out] at r
    exact pp_new r (there_set (there_set (there_set (there_set (there_set HT.out _ _) _ _) _ _) _ _) _ _) (by have := HSZ.out; simp; omega)
  have HBN : Hid (Below w.heap.size w (((((w1.setCell ⟨D, 0, none⟩ (.int .u8 1)).setCell ⟨D, 326, none⟩ (.int .u8 2)).setCell ⟨D, 652, none⟩ (.int .u8 1)).setCell ⟨D, 657, none⟩ (.int .u8 2)).setCell ⟨D, 662, none⟩ (.int .u8 3))) := HBE.out.trans (Ex.below ((((((Ex.refl (fun k => k = D) w1).set (j := 0) rfl (.int .u8 1)).set (j := 326) rfl (.int .u8 2)).set (j := 652) rfl (.int .u8 1)).set (j := 657) rfl (.int .u8 2)).set (j := 662) rfl (.int .u8 3)) HBE.out.size (fun j hj e => by have := HD.out; omega))
  generalize (((((w1.setCell ⟨D, 0, none⟩ (.int .u8 1)).setCell ⟨D, 326, none⟩ (.int .u8 2)).setCell ⟨D, 652, none⟩ (.int .u8 1)).setCell ⟨D, 657, none⟩ (.int .u8 2)).setCell ⟨D, 662, none⟩ (.int .u8 3)) = w2 at *
  clear c0 c1 c2 c3 c4 f0 f1 f2 f3 f4 HR HT HZA HZS HZl HB
  obtain ⟨B0, hla, hst⟩ := HPN.out.onA
  have HL0 := hide hla
  have HST0 := hide hst
  clear hla hst
  go_upto_region 10 with (go_at_call 64; refine (begin_any _ D 0 _ _ B0 10000 HL0.out rfl (by decide) (by decide)).mono ?_; intro e x0 hbs; obtain ⟨he, hps⟩ := HST0.out _ _ _ _ _ hbs; subst he; obtain ⟨S0, hk, hp⟩ := hps.out; have HK0 := hide hk; have HP1 := hide hp; clear hbs hps hk hp; simp only [])
  obtain ⟨B1, hla, hst⟩ := HP1.out.onB
  have HL1 := hide hla
  have HST1 := hide hst
  clear hla hst
  go_upto_region 11 with (go_at_call 64; refine (begin_any _ D 326 _ _ B1 10000 HL1.out rfl (by decide) (by decide)).mono ?_; intro e x1 hbs; obtain ⟨he, hps⟩ := HST1.out _ _ _ _ _ hbs; subst he; obtain ⟨S1, hk, hp⟩ := hps.out; have HK1 := hide (HK0.out.trans hk); have HP2 := hide hp; clear hbs hps hk hp; simp only [])
  have HPO : Hid (∃ S', PP x1 D pr0 S' ∧ Below w.heap.size w x1 ∧ ∀ k, k ∈ S' → w.heap.size ≤ k) := by
    refine ⟨S1, HP2.out, HBN.out.trans (HK1.out.1.below HBN.out.size (fun j hj e => ?_)), fun k hk => ?_⟩
    · rcases e with z | z
      · have := HD.out; omega
      · cases z
    · rcases HK1.out.2 k hk with z | z
      · cases z
      · exact Nat.le_trans HBN.out.size z
  clear HP1 HP2 HL0 HL1
  go_wp2
  go_ret2
  exact ⟨by rw [HD.out]; rfl, by rw [HD.out] at HPO ⊢; exact HPO.out⟩
set_option linter.unusedSimpArgs false in
set_option maxRecDepth 100000 in
/-- newPair -/
theorem newPairL_any (w : World) :
    Calls Try.prog 19 #[] w fun e w' => e = .returned (.pointer (some ⟨w.heap.size, 0, none⟩)) ∧ ∃ S', PP w' w.heap.size pr0 S' ∧ Below w.heap.size w w' ∧ ∀ k, k ∈ S' → w.heap.size ≤ k := by
  go_enter Try.func19, Try.ntmps19
  go_wp2_with (go_at_call 48; refine (newPair_any _).mono ?_; rintro e w2 ⟨rfl, hh⟩; have HH := hide hh; clear hh; simp only [])
  go_ret
  exact ⟨rfl, HH.out⟩
end Go.Proofs.Qxb6500784a
