import Derived.Test.Qxb6500773aGreatMl
namespace Go.Proofs.Qxb6500773aGreat
open Go.RowKit

def ptP (s : Bool × List Int) : List Int := (if s.1 = true then [100, 32] else []) ++ pcP s.2
def ptB (P : List (Bool × List Int)) : List Int := P.flatMap ptP
theorem ptB_succ {F : List (Bool × List Int)} {i : Nat} {C : Bool × List Int} (h : F[i]? = some C) : ptB (F.take (i + 1)) = ptB (F.take i) ++ ptP C := by
  unfold ptB
  rw [List.take_add_one, h]
  simp [List.flatMap_append]
theorem ptB_le (F : List (Bool × List Int)) (i : Nat) : (ptB (F.take i)).length ≤ (ptB F).length := by
  have h : ptB F = ptB (F.take i) ++ ptB (F.drop i) := by unfold ptB; rw [← List.flatMap_append, List.take_append_drop]
  rw [h, List.length_append]
  omega
set_option linter.unusedSimpArgs false in
set_option maxRecDepth 100000 in
set_option maxHeartbeats 8000000 in
/-- cnfm.PrintDrat -/
theorem printDratM_any (w : World) (af : Option Addr) (cf : Nat) (F : List (Bool × List Int)) (hF : SL w af F) (hl : F.length ≤ 1000000000) (hB : SB F) (hT : (ptB F).length ≤ 1000000000000) :
    Calls Tryz.prog 91 #[.slice af F.length cf] w (MuPost w (ptB F)) := by
  obtain ⟨i0, hi0, hz0, hz1, hz2⟩ := info_of Tryz.info5
  have HI := hide (And.intro hi0 (And.intro hz0 (And.intro hz1 hz2)))
  clear hi0 hz0 hz1 hz2
  have HT : Hid (∀ i, (ptB (F.take i)).length ≤ 1000000000000) := fun i => Nat.le_trans (ptB_le F i) hT
  have HPo : Hid (∀ i a2 m c2 w', F.length ≤ i → (ptB (F.take i)).length = m → w'.ownsRow w.heap.size 5 1 (.slice a2 m c2) m (rowU (ptB (F.take i))) → Ex (fun _ => False) w w' → MuPost w (ptB F) (.returned (.slice a2 m c2)) w') := fun i a2 m c2 w' hi hm hr he => by
    have e : F.take i = F := List.take_of_length_le hi
    rw [e] at hm hr
    subst hm
    exact ⟨a2, c2, rfl, hr, he⟩
  obtain ⟨R, hR⟩ : ∃ R, MuPost w (ptB F) = R := ⟨_, rfl⟩
  rw [hR] at HPo ⊢
  clear hR hT
  have HL := hide hB
  have HF := hide hF
  clear hB hF
  obtain ⟨n, hn⟩ : ∃ n, F.length = n := ⟨_, rfl⟩
  have HN := hide hn
  rw [hn] at hl HPo ⊢
  clear hn
  have HR0 := hide (own_empty w w.heap.size 5 (Nat.le_refl _))
  have HE0 : Hid (Ex (fun _ => False) w (w.alloc (.cells #[] 5))) := (Ex.refl _ w).alloc _
  go_enter Tryz.func91, Tryz.ntmps91
  go_upto_region 2 with fail
  generalize w.alloc (.cells #[] 5) = w1 at *
  generalize hg0 : w.heap.size = B0 at *
  have HB0 := hide hg0
  clear hg0
  go_wp2_with fail
  go_loopw [3, 5, 9] (fun s3 _ s9 wx => ∃ (i m c2 : Nat) (a2 : Option Addr), s9 = .int .i64 i ∧ s3 = .slice a2 m c2 ∧ i ≤ n ∧ m ≤ 1000000000000 ∧ Hid ((ptB (F.take i)).length = m) ∧ Hid (wx.ownsRow B0 5 1 (.slice a2 m c2) m (rowU (ptB (F.take i)))) ∧ Hid (Ex (fun _ => False) w wx)) (fun _ _ s9 _ => n - (intOf s9).toNat)
  case atStart => exact ⟨0, 0, 0, _, rfl, rfl, Nat.zero_le _, Nat.zero_le _, rfl, HR0, HE0⟩
  case round =>
    clear HR0 HE0
    obtain ⟨i, m, c2, a2, rfl, rfl, hi, hmi, HM, HR, HE⟩ := hrel
    have hw1 : wrap64 ((i : Int) + 1) = ((i + 1 : Nat) : Int) := by unfold wrap64; omega
    generalize hgw : wr = wl at *
    clear hgw
    by_cases hlt : i < n
    · have hib : decide ((i : Int) < (n : Int)) = true := decide_eq_true (by omega)
      have hii : (i : Int) < (n : Int) := by omega
      obtain ⟨⟨b, C⟩, hx⟩ : ∃ x, F[i]? = some x := ⟨_, List.getElem?_eq_getElem (by rw [HN.out]; exact hlt)⟩
      obtain ⟨g, o, a1, cc, ea, x0, x1, hil, hcc⟩ := HF.out i _ hx
      subst ea
      dsimp only at x0 x1 hil hcc
      have HIL := hide hil
      have HLC := hide (HL.out _ (List.mem_of_getElem? hx))
      dsimp only at HLC
      replace x0 := HE.out.cell (fun z => z) x0
      replace x1 := HE.out.cell (fun z => z) x1
      have HFS := hide (ptB_succ hx)
      have HTT := hide (HT.out (i + 1))
      have HYP : Hid (0 < (pcP C).length) := by show _ < _; unfold pcP; simp
      obtain ⟨X2, hX2⟩ : ∃ z, ptB (F.take (i + 1)) = z := ⟨_, rfl⟩
      have HX2 := hide hX2
      rw [hX2] at HFS HTT
      unfold ptP at HFS
      dsimp only at HFS
      clear hX2 hx hil hcc
      generalize ptB (F.take i) = X at *
      have HNE : Hid (¬ Value.ownBlock (.slice a2 m c2) = some wl.heap.size) := fun z => Nat.lt_irrefl _ (HR.out.lt _ z).2
      have f0 : (wl.alloc (.cells #[.bool b, .slice a1 C.length cc] 136)).cell? ⟨wl.heap.size, 0, none⟩ = some (.bool b) := new_cells wl [.bool b, .slice a1 C.length cc] 136 0 _ rfl
      have f1 : (wl.alloc (.cells #[.bool b, .slice a1 C.length cc] 136)).cell? ⟨wl.heap.size, 1, none⟩ = some (.slice a1 C.length cc) := new_cells wl [.bool b, .slice a1 C.length cc] 136 1 _ rfl
      have HRv := hide (own_kept HR.out (Ex.of (S := fun _ => False) (be1 wl (.cells #[.bool b, .slice a1 C.length cc] 136))) (fun _ _ e => e))
      have HEv : Hid (Ex (fun _ => False) w (wl.alloc (.cells #[.bool b, .slice a1 C.length cc] 136))) := HE.out.alloc _
      go_upto_region 5 with fail
      clear x0 x1 HR HE
      generalize wl.alloc (.cells #[.bool b, .slice a1 C.length cc] 136) = wv at *
      generalize wl.heap.size = bx at *
      cases b
      · have HX3 : Hid (X2 = X ++ pcP C) := by show _ = _; rw [HFS.out]; simp
        have HYL : Hid (0 < (pcP C).length ∧ m + (pcP C).length ≤ 1000000000000) := by
          have := HTT.out
          rw [HX3.out, List.length_append, HM.out] at this
          exact ⟨HYP.out, this⟩
        clear HFS HTT HYP
        have c86 := hide (printClauseM_any wv a1 cc C (HIL.out.keep HEv.out (fun _ _ _ z => z)) HLC.out.1 HLC.out.2)
        generalize pcP C = Y at *
        generalize C.length = lc at *
        go_wp2_with fail
        refine c86.out.mono ?_
        rintro e wdz ⟨a5, c5, rfl, hr5, he5⟩
        clear c86
        have HRd := hide (own_kept HRv.out he5 (fun _ _ e => e))
        have HEd : Hid (Ex (fun _ => False) w wdz) := HEv.out.trans2 he5 (fun _ z => z.elim)
        obtain ⟨g5, cap5, e5, -, -⟩ := hr5.form HYL.out.1
        injection e5 with e5 _ e6
        subst e5 e6
        have HNd : Hid (∀ (j : Nat) (u : Value), (rowU Y)[j]? = some u → wdz.cell? ((⟨g5, 0, none⟩ : Addr).add j) = some u) := hr5.cells rfl
        have HSd : Hid (B0 ≤ wdz.heap.size) := by rw [← HB0.out]; exact HEd.out.size
        have HYY : Hid ((rowU Y).length = Y.length * 1) := by show _ = _; unfold rowU; rw [List.length_map, Nat.mul_one]
        obtain ⟨kz, hk⟩ : ∃ k, Y.length = k := ⟨_, rfl⟩
        rw [hk] at HYL HYY ⊢
        have HKz := hide hk
        clear hk hr5 he5
        obtain ⟨hk1z, hk2z⟩ := HYL.out
        clear HRv HEv HYL
        go_upto_region 8 with (at_builtin; go_loud (refine wpList_append_lies _ rfl (.tmp 18) (.tmp 21) 35 rfl B0 5 i0 _ 1 1 Tryz.underlying35 HI.out.1 HI.out.2.1 HI.out.2.2.1 HI.out.2.2.2 rfl (by decide) (.slice a2 m c2) m (rowU X) rfl HRd.out ⟨g5, 0, none⟩ kz c5 (rowU Y) rfl HYY.out HNd.out (fun u hu => by unfold rowU at hu; obtain ⟨z, _, rfl⟩ := List.mem_map.mp hu; rfl) hk1z (by unfold maxLen; omega) (by omega) HSd.out _ rfl ?_; intro gz capz wz hr hg hat hlt2; have HRz := hide hr; have HEz : Hid (Ex (fun _ => False) w wz) := HEd.out.trans2 (Ex.ofGrown hg (S := fun k => Value.ownBlock (.slice a2 m c2) = some k) (fun k z => z.symm)) (fun j z => .inr (by rw [HB0.out]; exact (HRd.out.lt j z).1)); clear hr hg hat hlt2))
        clear HRd HEd HNd HSd HYY
        obtain ⟨m1, hm1⟩ : ∃ z, m + kz = z := ⟨_, rfl⟩
        rw [hm1] at HRz ⊢
        have HM2 : Hid (X2.length = m1) := by show _ = _; rw [HX3.out, ← hm1]; simp only [List.length_append, List.length_cons, List.length_nil, HM.out, HKz.out]
        have hmm : m1 ≤ 1000000000000 := by omega
        have HR4 : Hid (wz.ownsRow B0 5 1 (.slice (some ⟨gz, 0, none⟩) m1 capz) m1 (rowU X2)) := by rw [HX3.out]; unfold rowU at HRz ⊢; simp only [List.map_append, List.map_cons, List.map_nil, List.append_assoc, List.cons_append, List.nil_append] at HRz ⊢; exact HRz.out
        clear HRz HM HKz HX3 hm1
        go_wp2
        go_roundw
        case rel => exact ⟨i + 1, m1, _, _, by go_num, rfl, by omega, hmm, (by show _ = _; rw [HX2.out]; exact HM2.out), (by show World.ownsRow _ _ _ _ _ _ _; rw [HX2.out]; exact HR4.out), HEz⟩
        case measure => (simp [intOf]; try omega)
      · have HX3 : Hid (X2 = X ++ [100, 32] ++ pcP C) := by show _ = _; rw [HFS.out]; simp
        have HYL : Hid (0 < (pcP C).length ∧ m + 2 + (pcP C).length ≤ 1000000000000) := by
          have := HTT.out
          rw [HX3.out, List.length_append, List.length_append, HM.out] at this
          exact ⟨HYP.out, this⟩
        clear HFS HTT HYP
        have HWp := hide (own_kept HRv.out (Ex.of (S := fun _ => False) (be1 wv (.cells #[.int .u8 100, .int .u8 32] 5))) (fun _ _ e => e))
        have HSZp : Hid (B0 ≤ (wv.alloc (.cells #[.int .u8 100, .int .u8 32] 5)).heap.size) := by rw [← HB0.out]; exact Nat.le_trans HEv.out.size (be1 wv _).size
        have HNCp : Hid (∀ (j : Nat) (u : Value), [Value.int .u8 100, .int .u8 32][j]? = some u → (wv.alloc (.cells #[.int .u8 100, .int .u8 32] 5)).cell? ((⟨wv.heap.size, 0, none⟩ : Addr).add j) = some u) := fun j u hj => new_cells wv [.int .u8 100, .int .u8 32] 5 j u hj
        have HXp : Hid (Ex (fun _ => False) w (wv.alloc (.cells #[.int .u8 100, .int .u8 32] 5))) := HEv.out.alloc _
        go_upto_region 7 with (at_builtin; go_loud (refine wpList_append_lies _ rfl (.tmp 15) (.tmp 16) 35 rfl B0 5 i0 _ 1 1 Tryz.underlying35 HI.out.1 HI.out.2.1 HI.out.2.2.1 HI.out.2.2.2 rfl (by decide) (.slice a2 m c2) (m) (rowU X) rfl HWp.out ⟨wv.heap.size, 0, none⟩ 2 2 [.int .u8 100, .int .u8 32] rfl rfl HNCp.out (fun u hu => by simp at hu; rcases hu with hu | hu <;> (subst hu; rfl)) (by decide) (by unfold maxLen; omega) (by omega) HSZp.out _ rfl ?_; intro gp capp wp hr hg hat hlt2; have HRp := hide hr; have HQp : Hid (Ex (fun k => Value.ownBlock (.slice a2 m c2) = some k) wv wp) := ((Ex.refl _ wv).alloc _).trans (Ex.ofGrown hg (S := fun k => Value.ownBlock (.slice a2 m c2) = some k) (fun k z => z.symm)); have HEp : Hid (Ex (fun _ => False) w wp) := HXp.out.trans2 (Ex.ofGrown hg (S := fun k => Value.ownBlock (.slice a2 m c2) = some k) (fun k z => z.symm)) (fun j z => .inr (by rw [HB0.out]; exact (HRv.out.lt j z).1)); clear hr hg hat hlt2))
        clear HWp HSZp HNCp HXp HRv HEv
        have f1p := HQp.out.cell HNE.out f1
        clear f0 f1 HQp
        have c86 := hide (printClauseM_any wp a1 cc C (HIL.out.keep HEp.out (fun _ _ _ z => z)) HLC.out.1 HLC.out.2)
        generalize pcP C = Y at *
        generalize C.length = lc at *
        go_wp2_with fail
        refine c86.out.mono ?_
        rintro e wdz ⟨a5, c5, rfl, hr5, he5⟩
        clear c86
        have HRd := hide (own_kept HRp.out he5 (fun _ _ e => e))
        have HEd : Hid (Ex (fun _ => False) w wdz) := HEp.out.trans2 he5 (fun _ z => z.elim)
        obtain ⟨g5, cap5, e5, -, -⟩ := hr5.form HYL.out.1
        injection e5 with e5 _ e6
        subst e5 e6
        have HNd : Hid (∀ (j : Nat) (u : Value), (rowU Y)[j]? = some u → wdz.cell? ((⟨g5, 0, none⟩ : Addr).add j) = some u) := hr5.cells rfl
        have HSd : Hid (B0 ≤ wdz.heap.size) := by rw [← HB0.out]; exact HEd.out.size
        have HYY : Hid ((rowU Y).length = Y.length * 1) := by show _ = _; unfold rowU; rw [List.length_map, Nat.mul_one]
        obtain ⟨kz, hk⟩ : ∃ k, Y.length = k := ⟨_, rfl⟩
        rw [hk] at HYL HYY ⊢
        have HKz := hide hk
        clear hk hr5 he5
        obtain ⟨hk1z, hk2z⟩ := HYL.out
        clear HRp HEp HYL
        go_upto_region 8 with (at_builtin; go_loud (refine wpList_append_lies _ rfl (.tmp 18) (.tmp 21) 35 rfl B0 5 i0 _ 1 1 Tryz.underlying35 HI.out.1 HI.out.2.1 HI.out.2.2.1 HI.out.2.2.2 rfl (by decide) (.slice (some ⟨gp, 0, none⟩) (m + 2) capp) (m + 2) (rowU X ++ [.int .u8 100, .int .u8 32]) rfl HRd.out ⟨g5, 0, none⟩ kz c5 (rowU Y) rfl HYY.out HNd.out (fun u hu => by unfold rowU at hu; obtain ⟨z, _, rfl⟩ := List.mem_map.mp hu; rfl) hk1z (by unfold maxLen; omega) (by omega) HSd.out _ rfl ?_; intro gz capz wz hr hg hat hlt2; have HRz := hide hr; have HEz : Hid (Ex (fun _ => False) w wz) := HEd.out.trans2 (Ex.ofGrown hg (S := fun k => Value.ownBlock (.slice (some ⟨gp, 0, none⟩) (m + 2) capp) = some k) (fun k z => z.symm)) (fun j z => .inr (by rw [HB0.out]; exact (HRd.out.lt j z).1)); clear hr hg hat hlt2))
        clear HRd HEd HNd HSd HYY
        obtain ⟨m1, hm1⟩ : ∃ z, (m + 2) + kz = z := ⟨_, rfl⟩
        rw [hm1] at HRz ⊢
        have HM2 : Hid (X2.length = m1) := by show _ = _; rw [HX3.out, ← hm1]; simp only [List.length_append, List.length_cons, List.length_nil, HM.out, HKz.out]
        have hmm : m1 ≤ 1000000000000 := by omega
        have HR4 : Hid (wz.ownsRow B0 5 1 (.slice (some ⟨gz, 0, none⟩) m1 capz) m1 (rowU X2)) := by rw [HX3.out]; unfold rowU at HRz ⊢; simp only [List.map_append, List.map_cons, List.map_nil, List.append_assoc, List.cons_append, List.nil_append] at HRz ⊢; exact HRz.out
        clear HRz HM HKz HX3 hm1
        go_wp2
        go_roundw
        case rel => exact ⟨i + 1, m1, _, _, by go_num, rfl, by omega, hmm, (by show _ = _; rw [HX2.out]; exact HM2.out), (by show World.ownsRow _ _ _ _ _ _ _; rw [HX2.out]; exact HR4.out), HEz⟩
        case measure => (simp [intOf]; try omega)
    · have hib : decide ((i : Int) < (n : Int)) = false := decide_eq_false (by omega)
      have HPO := hide (HPo.out i a2 m c2 wl (by omega) HM.out HR.out HE.out)
      clear HM HR HPo
      go_wp2_with (with_reducible refine bodyPost_ret (v := .slice a2 m c2) ?hr ?hd ?hp)
      case hr => simp [results, Tryz.results91, go_sem]
      case hd => rfl
      case hp => exact HPO.out
end Go.Proofs.Qxb6500773aGreat
