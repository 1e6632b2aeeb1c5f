import Derived.Test.Qxb6500784aSrchP
namespace Go.Proofs.Qxb6500784a
open Go.RowKit

attribute [-simp] Try.isAgg95 Try.sizeOf95 Try.typeInfo95
theorem take_mem {p : List Nat} {t y k : Nat} (h : p[t]? = some y) : (k ∈ p.take (t + 1)) ↔ (k ∈ p.take t ∨ y = k) := by
  rw [List.take_add_one, h]
  simp [eq_comm]
set_option maxRecDepth 100000 in
set_option maxHeartbeats 4000000 in
theorem search_any (n : Nat) (L : Nat → Leg) (h8 : n ≤ 8) : ∀ (f : Nat) (w : World) (a : Option Addr) (cap : Nat) (ao : Option Addr) (cp : Nat) (p : List Nat), p.length + f = n → (∀ x, x ∈ p → x < n) → LegsAt w a n L → PermAt w ao cp p → (p = [] → ao = none ∧ cp = 0) →
    Calls Try.prog 47 #[.agg #[.slice a n cap], .slice ao p.length cp] w (SrchPost n L f p w) := by
  intro f
  induction f with
  | zero =>
    intro w a cap ao cp p hf hpn hL hP hnil
    have hlen : n = p.length := by omega
    subst hlen
    obtain ⟨W, hW⟩ : ∃ W, W = (w.alloc (.cells #[.slice a p.length cap] 27)) := ⟨_, rfl⟩
    have ca : W.cell? ⟨w.heap.size, 0, none⟩ = some (.slice a p.length cap) := by rw [hW]; simp [go_sem]
    have HB : Hid (Below w.heap.size w W) := by rw [hW]; exact (Below.refl _ _).alloc (Nat.le_refl _) _
    have HL := hide (hL.below HB.out)
    have HP := hide (hP.below HB.out)
    have HV := hide hpn
    clear hL hP hpn hnil hf
    go_enter Try.func47, Try.ntmps47
    go_upto_region 1 with fail
    rw [← hW]
    clear hW
    go_wp2_with fail
    refine (fits_any _ a p.length cap L ao cp p (by omega) HV.out HL.out HP.out).mono ?_
    rintro e w2 ⟨rfl, hb2⟩
    have HB2 : Hid (Below w.heap.size w w2) := HB.out.trans (hb2.mono HB.out.size)
    have HP2 := hide (HP.out.below hb2)
    clear hb2
    cases hfit : fitsB L p
    · have HC : Hid (srch p.length L 0 p = none) := by show srch p.length L 0 p = none; simp [srch, hfit]
      go_wp2
      exact bodyPost_ret (v := .tuple #[.slice ao p.length cp, .bool false]) (by simp [results, Try.results47, go_sem]) rfl ⟨HB2.out, Or.inr ⟨HC.out, _, rfl⟩⟩
    · have HC : Hid (srch p.length L 0 p = some p) := by show srch p.length L 0 p = some p; simp [srch, hfit]
      go_wp2
      exact bodyPost_ret (v := .tuple #[.slice ao p.length cp, .bool true]) (by simp [results, Try.results47, go_sem]) rfl ⟨HB2.out, Or.inl ⟨p, ao, cp, HC.out, rfl, HP2.out⟩⟩
  | succ f ih =>
    intro w a cap ao cp p hf hpn hL hP hnil
    obtain ⟨i0, hi, hz0, hz1, hz2⟩ := info_parts Try.inf3
    obtain ⟨W, hW⟩ : ∃ W, W = (w.alloc (.cells #[.slice a n cap] 27)) := ⟨_, rfl⟩
    have ca : W.cell? ⟨w.heap.size, 0, none⟩ = some (.slice a n cap) := by rw [hW]; simp [go_sem]
    have HB : Hid (Below w.heap.size w W) := by rw [hW]; exact (Below.refl _ _).alloc (Nat.le_refl _) _
    have HL := hide hL
    have HP := hide hP
    have HV := hide hpn
    have HF := hide hf
    have HNil := hide hnil
    have hpl : p.length < n := by omega
    have hne : ((p.length : Int) == (n : Int)) = false := by rw [beq_eq_false_iff_ne]; omega
    clear hL hP hpn hnil hf
    go_enter Try.func47, Try.ntmps47
    go_upto_region 1 with fail
    rw [← hW]
    clear hW
    go_upto_region 3 with fail
    try rw [hne]
    clear hne
    go_wp2
    have HCA := hide ca
    clear ca
    go_loopw [26] (fun s wr => ∃ k : Nat, k ≤ n ∧ s = .int .i64 k ∧ wr.cell? ⟨w.heap.size, 0, none⟩ = some (.slice a n cap) ∧ Below w.heap.size w wr ∧ ∀ i, i < k → (if i ∈ p then none else srch n L f (p ++ [i])) = none) (fun s _ => n - (intOf s).toNat)
    case atStart => exact ⟨0, Nat.zero_le _, rfl, HCA.out, HB.out, fun i h => by omega⟩
    case round =>
      clear HCA HB
      obtain ⟨k, hk, rfl, hca, hbel, hno⟩ := hrel
      have HCA := hide hca
      have HBw := hide hbel
      have HN := hide hno
      clear hbel hno
      by_cases hlt : k < n
      · go_wp2
        go_loop [7, 31] (fun u s => ∃ t : Nat, t ≤ p.length ∧ s = .int .i64 t ∧ u = .bool (decide (k ∈ p.take t))) (fun _ s => p.length - (intOf s).toNat)
        case atStart => exact ⟨0, Nat.zero_le _, rfl, by simp⟩
        case round =>
          obtain ⟨t, ht, rfl, rfl⟩ := hrel
          by_cases hlt2 : t < p.length
          · obtain ⟨y, hy⟩ : ∃ y, p[t]? = some y := ⟨_, List.getElem?_eq_getElem hlt2⟩
            obtain ⟨b, off, rfl, cy⟩ := (HP.out.below HBw.out).2 t y hy
            have HM := hide (take_mem (k := k) hy)
            clear hy
            by_cases he : y = k
            · have HT : Hid (decide (k ∈ p.take (t + 1)) = true) := decide_eq_true (HM.out.2 (Or.inr he))
              subst he
              go_wp2
              go_round
              case rel => exact ⟨t + 1, by omega, by go_num, by rw [HT.out]⟩
              case measure => simp [intOf]; omega
            · have HT : Hid (decide (k ∈ p.take (t + 1)) = decide (k ∈ p.take t)) := decide_eq_decide.2 (by rw [HM.out]; exact ⟨fun h => h.elim id fun h => absurd h he, Or.inl⟩)
              go_wp2
              go_round
              case rel => exact ⟨t + 1, by omega, by go_num, by rw [HT.out]⟩
              case measure => simp [intOf]; omega
          · have htk : p.take t = p := List.take_of_length_le (by omega)
            rw [htk]
            clear htk
            by_cases hm : k ∈ p
            · rw [decide_eq_true hm]
              have HM := hide hm
              clear hm
              go_wp2
              go_roundw
              case rel => exact ⟨k + 1, by omega, by go_num, HCA.out, HBw.out, fun i hi => by rcases Nat.lt_or_ge i k with h | h; exact HN.out i h; rw [show i = k by omega, if_pos HM.out]⟩
              case measure => simp [intOf]; omega
            · rw [decide_eq_false hm]
              have HM := hide hm
              clear hm
              have hbx : w.heap.size + 1 ≤ wr.heap.size := World.block_lt_of_cell? _ _ hca
              obtain ⟨p2, hp2⟩ : ∃ p2, p2 = p ++ [k] := ⟨_, rfl⟩
              have HP2 := hide hp2
              clear hp2
              go_upto_region 15 with fail
              go_wp2_with (first
                | (at_builtin; refine append_perm rfl (.tmp 40) (.tmp 41) 34 rfl (w.heap.size + 1) i0 Try.underlying34 hi hz0 hz1 hz2 rfl ao cp p rfl (HP.out.below HBw.out) HNil.out (by omega) hbx ?_; intro v1 w1 hown1 hgrow1; have HO1 := hide hown1; have HBo : Hid (Below (w.heap.size + 1) wr w1) := ((Below.refl _ _).grown hgrow1 hbx (fun j h => by cases h)); clear hown1 hgrow1; have hb1 : w.heap.size + 1 ≤ w1.heap.size := Nat.le_trans hbx HBo.out.size)
                | (at_builtin; refine wpList_append_own _ rfl (.tmp 43) (.tmp 45) 34 rfl (w.heap.size + 1) 3 i0 (.int .i64 0) 1 8 Try.underlying34 hi hz0 hz1 hz2 rfl (by decide) v1 p.length (vals p) rfl (HO1.out.alloc _) ⟨w1.heap.size, 0, none⟩ 1 1 [.int .i64 k] rfl rfl (fun j u hj => by (match j, hj with | 0, hj => simp at hj; subst hj; simp [Addr.add])) (fun u hu => by simp at hu; subst hu; rfl) (by unfold maxLen; omega) (by omega) (by simp; omega) ?_; intro v2 w2 hown2 hgrow2 _; have HBp : Hid (Below (w.heap.size + 1) wr w2) := (HBo.out.alloc hb1 _).grown hgrow2 (by simp; omega) (fun j h => (HO1.out.lt j h).1); have hown3 : w2.ownsRow (w.heap.size + 1) 3 1 v2 p2.length (vals p2) := (by rw [HP2.out, show (p ++ [k]).length = p.length + 1 by simp, show vals (p ++ [k]) = vals p ++ [.int .i64 k] by simp [vals]]; exact hown2); obtain ⟨ao2, cp2, rfl, hpm⟩ := owns_perm hown3; have HPM := hide hpm; clear hown2 hgrow2 hown3 hpm; have ca2 : w2.cell? ⟨w.heap.size, 0, none⟩ = some (.slice a n cap) := (bat HBp.out 0 (by omega)).trans hca))
              have HB2 : Hid (Below w.heap.size w w2) := HBw.out.trans (HBp.out.mono (by omega))
              refine (ih w2 a cap ao2 cp2 p2 (by rw [HP2.out]; simp; have := HF.out; omega) (fun x hx => by rw [HP2.out] at hx; rcases List.mem_append.1 hx with h | h; exact HV.out x h; rw [List.mem_singleton.1 h]; exact hlt) (HL.out.below HB2.out) HPM.out (fun e => by rw [HP2.out] at e; simp at e)).mono ?_
              rintro e w3 ⟨hb3, hres⟩
              have HB3 : Hid (Below w.heap.size w w3) := HB2.out.trans (hb3.mono HB2.out.size)
              have HCA3 := hide (cellKeep hb3 ca2)
              clear hb3 ca2 hca
              rcases hres with ⟨r, ao3, cp3, hr, rfl, hp3⟩ | ⟨hr, v3, rfl⟩
              · have HC : Hid (srch n L (f + 1) p = some r) := by
                  show srch n L (f + 1) p = some r
                  rw [srch]
                  exact firstOf_some (t := k) (by rw [if_neg HM.out, ← HP2.out]; exact hr) (Nat.zero_le _) (by omega) fun i _ hi => HN.out i hi
                have HP3 := hide hp3
                clear hp3 hr
                go_wp2
                exact bodyPost_ret (v := .tuple #[.slice ao3 r.length cp3, .bool true]) (by simp [results, Try.results47, go_sem]) rfl ⟨HB3.out, Or.inl ⟨r, ao3, cp3, HC.out, rfl, HP3.out⟩⟩
              · have HR : Hid ((if k ∈ p then none else srch n L f (p ++ [k])) = none) := by
                  show (if k ∈ p then none else srch n L f (p ++ [k])) = none
                  rw [if_neg HM.out, ← HP2.out]; exact hr
                clear hr
                go_wp2
                go_roundw
                case rel => exact ⟨k + 1, by omega, by go_num, HCA3.out, HB3.out, fun i hi => by rcases Nat.lt_or_ge i k with h | h; exact HN.out i h; rw [show i = k by omega]; exact HR.out⟩
                case measure => simp [intOf]; omega
      · have HC : Hid (srch n L (f + 1) p = none) := by
          show srch n L (f + 1) p = none
          rw [srch]
          exact firstOf_none fun i _ hi => HN.out i (by omega)
        go_wp2
        exact bodyPost_ret (v := .tuple #[.slice none 0 0, .bool false]) (by simp [results, Try.results47, go_sem]) rfl ⟨HBw.out, Or.inr ⟨HC.out, _, rfl⟩⟩
end Go.Proofs.Qxb6500784a
