import Derived.Test.Qxb6500773aGreatMk
namespace Go.Proofs.Qxb6500773aGreat
open Go.RowKit

def hdM (nv k : Nat) : List Int := [112, 32, 99, 110, 102, 32] ++ ((lowD nv).reverse ++ ([32] ++ ((lowD k).reverse ++ [10])))
def pdP (nv : Nat) (F : List (List Int)) : List Int := hdM nv F.length ++ F.flatMap pcP
theorem lowD_rev {n : Nat} (h : n < 2 ^ 63) : 0 < (lowD n).reverse.length ∧ (lowD n).reverse.length ≤ 20 := by
  rw [List.length_reverse]; exact ⟨lowD_len _, lowD_20 h⟩
theorem flat_succ {F : List (List Int)} {i : Nat} {C : List Int} (h : F[i]? = some C) : (F.take (i + 1)).flatMap pcP = (F.take i).flatMap pcP ++ pcP C := by
  rw [List.take_add_one, h]
  simp [List.flatMap_append]
theorem flat_le (F : List (List Int)) (i : Nat) : ((F.take i).flatMap pcP).length ≤ (F.flatMap pcP).length := by
  have h : F.flatMap pcP = (F.take i).flatMap pcP ++ (F.drop i).flatMap pcP := by rw [← List.flatMap_append, List.take_append_drop]
  rw [h, List.length_append]
  omega
set_option linter.unusedSimpArgs false in
set_option maxRecDepth 100000 in
set_option maxHeartbeats 8000000 in
/-- cnfm.PrintDimacs -/
theorem printDimacsM_any (w : World) (nv : Nat) (af : Option Addr) (cf : Nat) (F : List (List Int)) (hF : FL w af F) (hnv : nv < 2 ^ 63) (hl : F.length ≤ 1000000000) (hB : FB F) (hT : (F.flatMap pcP).length ≤ 1000000000000) :
    Calls Tryz.prog 89 #[.agg #[.int .i64 nv, .slice af F.length cf]] w (MuPost w (pdP nv F)) := by
  obtain ⟨i0, hi0, hz0, hz1, hz2⟩ := info_of Tryz.info5
  have HI := hide (And.intro hi0 (And.intro hz0 (And.intro hz1 hz2)))
  clear hi0 hz0 hz1 hz2
  have HT : Hid (∀ i, ((F.take i).flatMap pcP).length ≤ 1000000000000) := fun i => Nat.le_trans (flat_le F i) hT
  have HPo : Hid (∀ i a2 m c2 w', F.length ≤ i → (hdM nv F.length ++ (F.take i).flatMap pcP).length = m → w'.ownsRow w.heap.size 5 1 (.slice a2 m c2) m (rowU (hdM nv F.length ++ (F.take i).flatMap pcP)) → Ex (fun _ => False) w w' → MuPost w (pdP nv F) (.returned (.slice a2 m c2)) w') := fun i a2 m c2 w' hi hm hr he => by
    have e : F.take i = F := List.take_of_length_le hi
    rw [e] at hm hr
    subst hm
    exact ⟨a2, c2, rfl, hr, he⟩
  obtain ⟨R, hR⟩ : ∃ R, MuPost w (pdP nv F) = R := ⟨_, rfl⟩
  rw [hR] at HPo ⊢
  clear hR hT
  have HL := hide hB
  obtain ⟨n, hn⟩ : ∃ n, F.length = n := ⟨_, rfl⟩
  have HN := hide hn
  rw [hn] at hl HPo ⊢
  clear hn
  have HEw : Hid (Ex (fun _ => False) w (w.alloc (.cells #[.int .i64 nv, .slice af n cf] 29))) := (Ex.refl _ w).alloc _
  have HF := hide (hF.keep HEw.out)
  have f0 : (w.alloc (.cells #[.int .i64 nv, .slice af n cf] 29)).cell? ⟨w.heap.size, 0, none⟩ = some (.int .i64 nv) := new_cells w [.int .i64 nv, .slice af n cf] 29 0 _ rfl
  have f1 : (w.alloc (.cells #[.int .i64 nv, .slice af n cf] 29)).cell? ⟨w.heap.size, 1, none⟩ = some (.slice af n cf) := new_cells w [.int .i64 nv, .slice af n cf] 29 1 _ rfl
  have HD1 := hide (lowD_rev hnv)
  have HD2 := hide (lowD_rev (n := n) (by omega))
  have HHD : Hid (hdM nv n = [112, 32, 99, 110, 102, 32] ++ ((lowD nv).reverse ++ ([32] ++ ((lowD n).reverse ++ [10])))) := rfl
  have C1 : Hid (∀ wz, Calls Tryz.prog 134 #[.int .i64 nv] wz (MuPost wz (lowD nv).reverse)) := fun wz => decimalM_any nv hnv wz
  have C2 : Hid (∀ wz, Calls Tryz.prog 134 #[.int .i64 n] wz (MuPost wz (lowD n).reverse)) := fun wz => decimalM_any n (by omega) wz
  generalize (lowD nv).reverse = Y1 at *
  generalize (lowD n).reverse = Y2 at *
  generalize hdM nv n = Hd at *
  clear hB hF hnv
  go_enter Tryz.func89, Tryz.ntmps89
  go_upto_region 1 with fail
  generalize w.alloc (.cells #[.int .i64 nv, .slice af n cf] 29) = w1 at *
  have HR0 := hide (World.ownsRow_lit (base := w1.heap.size) (e := 5) (size := 1) w1 #[.int .u8 112, .int .u8 32, .int .u8 99, .int .u8 110, .int .u8 102, .int .u8 32] 6 (Nat.le_refl _) (by unfold maxLen; omega) rfl)
  have HE0 : Hid (Ex (fun _ => False) w1 (w1.alloc (.cells #[.int .u8 112, .int .u8 32, .int .u8 99, .int .u8 110, .int .u8 102, .int .u8 32] 5))) := (Ex.refl _ w1).alloc _
  go_upto_region 2 with fail
  generalize w1.alloc (.cells #[.int .u8 112, .int .u8 32, .int .u8 99, .int .u8 110, .int .u8 102, .int .u8 32] 5) = w2 at *
  obtain ⟨bx, hbx⟩ : ∃ z, w.heap.size = z := ⟨_, rfl⟩
  have HBX := hide hbx
  rw [hbx] at f0 f1 HPo ⊢
  clear hbx
  obtain ⟨B0, hg0⟩ : ∃ z, w1.heap.size = z := ⟨_, rfl⟩
  have HB0 := hide hg0
  rw [hg0] at HR0 ⊢
  clear hg0
  have k0 := HE0.out.cell (fun z => z) f0
  have c1 := hide (C1.out w2)
  go_wp2_with fail
  refine c1.out.mono ?_
  rintro e wdp ⟨a5, c5, rfl, hr5, he5⟩
  clear c1
  have HRd := hide (own_kept HR0.out he5 (fun _ _ e => e))
  have HEd : Hid (Ex (fun _ => False) w1 wdp) := HE0.out.trans2 he5 (fun _ z => z.elim)
  obtain ⟨g5, cap5, e5, -, -⟩ := hr5.form HD1.out.1
  injection e5 with e5 _ e6
  subst e5 e6
  have HNd : Hid (∀ (j : Nat) (u : Value), (rowU Y1)[j]? = some u → wdp.cell? ((⟨g5, 0, none⟩ : Addr).add j) = some u) := hr5.cells rfl
  have HSd : Hid (B0 ≤ wdp.heap.size) := by rw [← HB0.out]; exact HEd.out.size
  have HYY : Hid ((rowU Y1).length = Y1.length * 1) := by show _ = _; unfold rowU; rw [List.length_map, Nat.mul_one]
  obtain ⟨kp, hk⟩ : ∃ k, Y1.length = k := ⟨_, rfl⟩
  rw [hk] at HD1 HYY ⊢
  have HKp := hide hk
  clear hk hr5 he5
  obtain ⟨hk1p, hk2p⟩ := HD1.out
  clear HR0 HE0 HD1
  go_upto_region 3 with (at_builtin; go_loud (refine wpList_append_lies _ rfl (.tmp 7) (.tmp 10) 35 rfl B0 5 i0 _ 1 1 Tryz.underlying35 HI.out.1 HI.out.2.1 HI.out.2.2.1 HI.out.2.2.2 rfl (by decide) (.slice (some ⟨B0, 0, none⟩) 6 6) 6 ([.int .u8 112, .int .u8 32, .int .u8 99, .int .u8 110, .int .u8 102, .int .u8 32]) rfl HRd.out ⟨g5, 0, none⟩ kp c5 (rowU Y1) rfl HYY.out HNd.out (fun u hu => by unfold rowU at hu; obtain ⟨z, _, rfl⟩ := List.mem_map.mp hu; rfl) hk1p (by unfold maxLen; omega) (by omega) HSd.out _ rfl ?_; intro gp capp wp hr hg hat hlt2; have HRp := hide hr; have HEp : Hid (Ex (fun _ => False) w1 wp) := HEd.out.trans2 (Ex.ofGrown hg (S := fun k => Value.ownBlock (.slice (some ⟨B0, 0, none⟩) 6 6) = some k) (fun k z => z.symm)) (fun j z => .inr (by rw [HB0.out]; exact (HRd.out.lt j z).1)); clear hr hg hat hlt2))
  clear HRd HEd HNd HSd HYY
  clear C1 k0
  have HWq := hide (own_kept HRp.out (Ex.of (S := fun _ => False) (be1 wp (.cells #[.int .u8 32] 5))) (fun _ _ e => e))
  have HSZq : Hid (B0 ≤ (wp.alloc (.cells #[.int .u8 32] 5)).heap.size) := by rw [← HB0.out]; exact Nat.le_trans HEp.out.size (be1 wp _).size
  have HNCq : Hid (∀ (j : Nat) (u : Value), [Value.int .u8 32][j]? = some u → (wp.alloc (.cells #[.int .u8 32] 5)).cell? ((⟨wp.heap.size, 0, none⟩ : Addr).add j) = some u) := fun j u hj => new_cells wp [.int .u8 32] 5 j u hj
  have HXq : Hid (Ex (fun _ => False) w1 (wp.alloc (.cells #[.int .u8 32] 5))) := HEp.out.alloc _
  go_upto_region 4 with (at_builtin; go_loud (refine wpList_append_lies _ rfl (.tmp 12) (.tmp 13) 35 rfl B0 5 i0 _ 1 1 Tryz.underlying35 HI.out.1 HI.out.2.1 HI.out.2.2.1 HI.out.2.2.2 rfl (by decide) (.slice (some ⟨gp, 0, none⟩) (6 + kp) capp) ((6 + kp)) ([.int .u8 112, .int .u8 32, .int .u8 99, .int .u8 110, .int .u8 102, .int .u8 32] ++ rowU Y1) rfl HWq.out ⟨wp.heap.size, 0, none⟩ 1 1 [.int .u8 32] rfl rfl HNCq.out (fun u hu => by simp at hu; subst hu; rfl) (by decide) (by unfold maxLen; omega) (by omega) HSZq.out _ rfl ?_; intro gq capq wq hr hg hat hlt2; have HRq := hide hr; have HEq : Hid (Ex (fun _ => False) w1 wq) := HXq.out.trans2 (Ex.ofGrown hg (S := fun k => Value.ownBlock (.slice (some ⟨gp, 0, none⟩) (6 + kp) capp) = some k) (fun k z => z.symm)) (fun j z => .inr (by rw [HB0.out]; exact (HRp.out.lt j z).1)); clear hr hg hat hlt2))
  clear HWq HSZq HNCq HXq HRp HEp
  have k1 := HEq.out.cell (fun z => z) f1
  have c2 := hide (C2.out wq)
  go_wp2_with fail
  refine c2.out.mono ?_
  rintro e wdr ⟨a5, c5, rfl, hr5, he5⟩
  clear c2
  have HRd := hide (own_kept HRq.out he5 (fun _ _ e => e))
  have HEd : Hid (Ex (fun _ => False) w1 wdr) := HEq.out.trans2 he5 (fun _ z => z.elim)
  obtain ⟨g5, cap5, e5, -, -⟩ := hr5.form HD2.out.1
  injection e5 with e5 _ e6
  subst e5 e6
  have HNd : Hid (∀ (j : Nat) (u : Value), (rowU Y2)[j]? = some u → wdr.cell? ((⟨g5, 0, none⟩ : Addr).add j) = some u) := hr5.cells rfl
  have HSd : Hid (B0 ≤ wdr.heap.size) := by rw [← HB0.out]; exact HEd.out.size
  have HYY : Hid ((rowU Y2).length = Y2.length * 1) := by show _ = _; unfold rowU; rw [List.length_map, Nat.mul_one]
  obtain ⟨kr, hk⟩ : ∃ k, Y2.length = k := ⟨_, rfl⟩
  rw [hk] at HD2 HYY ⊢
  have HKr := hide hk
  clear hk hr5 he5
  obtain ⟨hk1r, hk2r⟩ := HD2.out
  clear HRq HEq HD2
  go_upto_region 5 with (at_builtin; go_loud (refine wpList_append_lies _ rfl (.tmp 15) (.tmp 19) 35 rfl B0 5 i0 _ 1 1 Tryz.underlying35 HI.out.1 HI.out.2.1 HI.out.2.2.1 HI.out.2.2.2 rfl (by decide) (.slice (some ⟨gq, 0, none⟩) (6 + kp + 1) capq) (6 + kp + 1) ([.int .u8 112, .int .u8 32, .int .u8 99, .int .u8 110, .int .u8 102, .int .u8 32] ++ rowU Y1 ++ [.int .u8 32]) rfl HRd.out ⟨g5, 0, none⟩ kr c5 (rowU Y2) rfl HYY.out HNd.out (fun u hu => by unfold rowU at hu; obtain ⟨z, _, rfl⟩ := List.mem_map.mp hu; rfl) hk1r (by unfold maxLen; omega) (by omega) HSd.out _ rfl ?_; intro gr capr wr hr hg hat hlt2; have HRr := hide hr; have HEr : Hid (Ex (fun _ => False) w1 wr) := HEd.out.trans2 (Ex.ofGrown hg (S := fun k => Value.ownBlock (.slice (some ⟨gq, 0, none⟩) (6 + kp + 1) capq) = some k) (fun k z => z.symm)) (fun j z => .inr (by rw [HB0.out]; exact (HRd.out.lt j z).1)); clear hr hg hat hlt2))
  clear HRd HEd HNd HSd HYY
  clear C2 k1
  have HWs := hide (own_kept HRr.out (Ex.of (S := fun _ => False) (be1 wr (.cells #[.int .u8 10] 5))) (fun _ _ e => e))
  have HSZs : Hid (B0 ≤ (wr.alloc (.cells #[.int .u8 10] 5)).heap.size) := by rw [← HB0.out]; exact Nat.le_trans HEr.out.size (be1 wr _).size
  have HNCs : Hid (∀ (j : Nat) (u : Value), [Value.int .u8 10][j]? = some u → (wr.alloc (.cells #[.int .u8 10] 5)).cell? ((⟨wr.heap.size, 0, none⟩ : Addr).add j) = some u) := fun j u hj => new_cells wr [.int .u8 10] 5 j u hj
  have HXs : Hid (Ex (fun _ => False) w1 (wr.alloc (.cells #[.int .u8 10] 5))) := HEr.out.alloc _
  go_upto_region 6 with (at_builtin; go_loud (refine wpList_append_lies _ rfl (.tmp 21) (.tmp 22) 35 rfl B0 5 i0 _ 1 1 Tryz.underlying35 HI.out.1 HI.out.2.1 HI.out.2.2.1 HI.out.2.2.2 rfl (by decide) (.slice (some ⟨gr, 0, none⟩) (6 + kp + 1 + kr) capr) ((6 + kp + 1 + kr)) ([.int .u8 112, .int .u8 32, .int .u8 99, .int .u8 110, .int .u8 102, .int .u8 32] ++ rowU Y1 ++ [.int .u8 32] ++ rowU Y2) rfl HWs.out ⟨wr.heap.size, 0, none⟩ 1 1 [.int .u8 10] rfl rfl HNCs.out (fun u hu => by simp at hu; subst hu; rfl) (by decide) (by unfold maxLen; omega) (by omega) HSZs.out _ rfl ?_; intro gs caps ws hr hg hat hlt2; have HRs := hide hr; have HEs : Hid (Ex (fun _ => False) w1 ws) := HXs.out.trans2 (Ex.ofGrown hg (S := fun k => Value.ownBlock (.slice (some ⟨gr, 0, none⟩) (6 + kp + 1 + kr) capr) = some k) (fun k z => z.symm)) (fun j z => .inr (by rw [HB0.out]; exact (HRr.out.lt j z).1)); clear hr hg hat hlt2))
  clear HWs HSZs HNCs HXs HRr HEr
  obtain ⟨m0, hm0⟩ : ∃ z, 6 + kp + 1 + kr + 1 = z := ⟨_, rfl⟩
  rw [hm0] at HRs ⊢
  have hmb0 : m0 ≤ 48 := by omega
  have HHL : Hid (Hd.length = m0) := by show _ = _; rw [HHD.out, ← hm0]; simp only [List.length_append, List.length_cons, List.length_nil, HKp.out, HKr.out]; omega
  have HR1 : Hid (ws.ownsRow B0 5 1 (.slice (some ⟨gs, 0, none⟩) m0 caps) m0 (rowU Hd)) := by rw [HHD.out]; unfold rowU at HRs ⊢; simp only [List.map_append, List.map_cons, List.map_nil, List.append_assoc, List.cons_append, List.nil_append] at HRs ⊢; exact HRs.out
  clear HRs hm0 HKp HKr HHD
  have k1 := HEs.out.cell (fun z => z) f1
  go_wp2_with fail
  go_loopw [3, 5, 27] (fun s3 _ s27 wx => ∃ (i m c2 : Nat) (a2 : Option Addr), s27 = .int .i64 i ∧ s3 = .slice a2 m c2 ∧ i ≤ n ∧ m ≤ 1000000000048 ∧ Hid ((Hd ++ (F.take i).flatMap pcP).length = m) ∧ Hid (wx.ownsRow B0 5 1 (.slice a2 m c2) m (rowU (Hd ++ (F.take i).flatMap pcP))) ∧ Hid (Ex (fun _ => False) w1 wx)) (fun _ _ s27 _ => n - (intOf s27).toNat)
  case atStart => exact ⟨0, m0, _, _, rfl, rfl, Nat.zero_le _, by omega, (by show _ = _; rw [List.take_zero, List.flatMap_nil, List.append_nil]; exact HHL.out), (by show World.ownsRow _ _ _ _ _ _ _; rw [List.take_zero, List.flatMap_nil, List.append_nil]; exact HR1.out), HEs⟩
  case round =>
    clear HR1 HEs k1 f0 f1
    obtain ⟨i, m, c2, a2, rfl, rfl, hi, hmi, HM, HR, HE⟩ := hrel
    have hw1 : wrap64 ((i : Int) + 1) = ((i + 1 : Nat) : Int) := by unfold wrap64; omega
    generalize hgw : wr = wl at *
    clear hgw
    by_cases hlt : i < n
    · have hib : decide ((i : Int) < (n : Int)) = true := decide_eq_true (by omega)
      have hii : (i : Int) < (n : Int) := by omega
      obtain ⟨C, hx⟩ : ∃ x, F[i]? = some x := ⟨_, List.getElem?_eq_getElem (by rw [HN.out]; exact hlt)⟩
      obtain ⟨g, o, a1, cc, ea, x0, hil, hcc⟩ := (HF.out.keep HE.out) i C hx
      subst ea
      have HXM : Hid (C ∈ F) := List.mem_of_getElem? hx
      have c86 := hide (printClauseM_any wl a1 cc C hil (HL.out C HXM.out).1 (HL.out C HXM.out).2)
      have HFS := hide (flat_succ hx)
      have HTT : Hid ((Hd ++ (F.take (i + 1)).flatMap pcP).length ≤ 1000000000048) := by show _ ≤ _; rw [List.length_append, HHL.out]; have := HT.out (i + 1); omega
      have HYL : Hid (0 < (pcP C).length ∧ (Hd ++ (F.take i).flatMap pcP).length + (pcP C).length ≤ 1000000000048) := by
        refine ⟨by unfold pcP; simp, ?_⟩
        have := HTT.out
        rw [HFS.out, ← List.append_assoc, List.length_append] at this
        exact this
      rw [HM.out] at HYL
      clear hx hil hcc HXM HTT
      generalize pcP C = Y at *
      generalize C.length = lc at *
      obtain ⟨X2, hX2⟩ : ∃ z, Hd ++ (F.take (i + 1)).flatMap pcP = z := ⟨_, rfl⟩
      have HX2 := hide hX2
      rw [HFS.out, ← List.append_assoc] at hX2
      have HX3 := hide hX2.symm
      clear hX2 HFS
      generalize Hd ++ (F.take i).flatMap pcP = X at *
      go_wp2_with fail
      refine c86.out.mono ?_
      rintro e wdz ⟨a5, c5, rfl, hr5, he5⟩
      clear c86
      have HRd := hide (own_kept HR.out he5 (fun _ _ e => e))
      have HEd : Hid (Ex (fun _ => False) w1 wdz) := HE.out.trans2 he5 (fun _ z => z.elim)
      obtain ⟨g5, cap5, e5, -, -⟩ := hr5.form HYL.out.1
      injection e5 with e5 _ e6
      subst e5 e6
      have HNd : Hid (∀ (j : Nat) (u : Value), (rowU Y)[j]? = some u → wdz.cell? ((⟨g5, 0, none⟩ : Addr).add j) = some u) := hr5.cells rfl
      have HSd : Hid (B0 ≤ wdz.heap.size) := by rw [← HB0.out]; exact HEd.out.size
      have HYY : Hid ((rowU Y).length = Y.length * 1) := by show _ = _; unfold rowU; rw [List.length_map, Nat.mul_one]
      obtain ⟨kz, hk⟩ : ∃ k, Y.length = k := ⟨_, rfl⟩
      rw [hk] at HYL HYY ⊢
      have HKz := hide hk
      clear hk hr5 he5
      obtain ⟨hk1z, hk2z⟩ := HYL.out
      clear HR HE HYL
      go_upto_region 10 with (at_builtin; go_loud (refine wpList_append_lies _ rfl (.tmp 31) (.tmp 33) 35 rfl B0 5 i0 _ 1 1 Tryz.underlying35 HI.out.1 HI.out.2.1 HI.out.2.2.1 HI.out.2.2.2 rfl (by decide) (.slice a2 m c2) m (rowU X) rfl HRd.out ⟨g5, 0, none⟩ kz c5 (rowU Y) rfl HYY.out HNd.out (fun u hu => by unfold rowU at hu; obtain ⟨z, _, rfl⟩ := List.mem_map.mp hu; rfl) hk1z (by unfold maxLen; omega) (by omega) HSd.out _ rfl ?_; intro gz capz wz hr hg hat hlt2; have HRz := hide hr; have HEz : Hid (Ex (fun _ => False) w1 wz) := HEd.out.trans2 (Ex.ofGrown hg (S := fun k => Value.ownBlock (.slice a2 m c2) = some k) (fun k z => z.symm)) (fun j z => .inr (by rw [HB0.out]; exact (HRd.out.lt j z).1)); clear hr hg hat hlt2))
      clear HRd HEd HNd HSd HYY
      have HM2 : Hid (X2.length = m + kz) := by show _ = _; rw [HX3.out, List.length_append, HM.out, HKz.out]
      have HR4 : Hid (wz.ownsRow B0 5 1 (.slice (some ⟨gz, 0, none⟩) (m + kz) capz) (m + kz) (rowU X2)) := by rw [HX3.out]; unfold rowU at HRz ⊢; rw [List.map_append]; exact HRz.out
      clear HRz HM HKz HX3
      go_wp2
      go_roundw
      case rel => exact ⟨i + 1, m + kz, _, _, by go_num, rfl, by omega, by omega, (by show _ = _; rw [HX2.out]; exact HM2.out), (by show World.ownsRow _ _ _ _ _ _ _; rw [HX2.out]; exact HR4.out), HEz⟩
      case measure => (simp [intOf]; try omega)
    · have hib : decide ((i : Int) < (n : Int)) = false := decide_eq_false (by omega)
      have HPO := hide (HPo.out i a2 m c2 wl (by omega) HM.out (own_base (by rw [← HBX.out, ← HB0.out]; exact HEw.out.size) HR.out) (HEw.out.trans2 HE.out (fun _ z => z.elim)))
      clear HM HR HPo
      go_wp2_with (with_reducible refine bodyPost_ret (v := .slice a2 m c2) ?hr ?hd ?hp)
      case hr => simp [results, Tryz.results89, go_sem]
      case hd => rfl
      case hp => exact HPO.out
end Go.Proofs.Qxb6500773aGreat
