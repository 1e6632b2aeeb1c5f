import Derived.Test.Qxb6500776aSml
namespace Go.Proofs.Qxb6500776a
open Go.RowKit

theorem filter_take {L : List Det} {P : Det → Bool} {i : Nat} {x : Det} (h : L[i]? = some x) : (L.take (i + 1)).filter P = (L.take i).filter P ++ (if P x then [x] else []) := by
  rw [List.take_add_one, h, List.filter_append]
  congr 1
  cases e : P x <;> simp [List.filter, e]
def OftPost (w : World) (Ds : List Det) (e : Ending) (w' : World) : Prop := ∃ a n c, e = .returned (.slice a n c) ∧ n = Ds.length ∧ DRow w' w.heap.size (.slice a n c) Ds ∧ Below w.heap.size w w'
set_option maxRecDepth 100000 in
set_option maxHeartbeats 2000000 in
theorem ofTeam_any (w : World) (b : Nat) (a : Option Addr) (n c : Nat) (Ds : List Det) (h : DRow w b (.slice a n c) Ds) (hn : n = Ds.length) (hl : n ≤ 768) (T : Int) :
    Calls Try.prog 27 #[.slice a n c, .int .i64 T] w (OftPost w (Ds.filter fun d => d.team == T)) := by
  have HR0 := hide h
  have HN := hide hn
  clear h hn
  obtain ⟨P, hP⟩ : ∃ P : Det → Bool, (fun d => d.team == T) = P := ⟨_, rfl⟩
  rw [hP]
  have HP := hide hP
  clear hP
  obtain ⟨i0, hi0, hz0, hz1, hz2⟩ : ∃ i0, Try.prog.info? 58 = some i0 ∧ i0.zero = some (.agg #[.int .i64 0, .int .i64 0, .int .i64 0, .int .i64 0, .int .i64 0, .int .i64 0]) ∧ i0.size = 6 ∧ i0.bytes = 48 := ⟨_, rfl, rfl, rfl, rfl⟩
  go_enter Try.func27, Try.ntmps27
  go_wp2
  go_loopw [5, 6] (fun sv sj wr => ∃ (j : Nat) (a : Option Addr) (c : Nat), j ≤ n ∧ sj = .int .i64 j ∧ sv = .slice a ((Ds.take j).filter P).length c ∧ DRow wr w.heap.size (.slice a ((Ds.take j).filter P).length c) ((Ds.take j).filter P) ∧ Below w.heap.size w wr) (fun _ sj _ => n - (intOf sj).toNat)
  case atStart => exact ⟨0, none, 0, by omega, rfl, rfl, World.ownsRow_nil _ _ _ _, Below.refl _ _⟩
  case round =>
    obtain ⟨j, a2, c2, hj, rfl, rfl, hr, hb⟩ := hrel
    have HR := hide hr
    have HE := hide hb
    have R0 := HR0.out.below hb
    clear hr hb
    by_cases hlt : j < n
    · have hlti : (j : Int) < (n : Int) := by omega
      obtain ⟨d, hd⟩ : ∃ d, Ds[j]? = some d := ⟨_, List.getElem?_eq_getElem (by have := HN.out; omega)⟩
      obtain ⟨g, c9, e⟩ := own_some R0 (by have := HN.out; omega)
      cases e
      have p0 := R0.at HN.out hd (j := 0) (v := .int .i64 d.team) rfl
      have p1 := R0.at HN.out hd (j := 1) (v := .int .i64 d.target) rfl
      have p2 := R0.at HN.out hd (j := 2) (v := .int .i64 d.sensor) rfl
      have p3 := R0.at HN.out hd (j := 3) (v := .int .i64 d.obs) rfl
      have p4 := R0.at HN.out hd (j := 4) (v := .int .i64 d.d) rfl
      have p5 := R0.at HN.out hd (j := 5) (v := .int .i64 d.g) rfl
      rw [Nat.add_zero] at p0
      have HX := hide (filter_take (P := P) hd)
      have HPd := hide (show P d = (d.team == T) by rw [← HP.out])
      obtain ⟨Es, hEs⟩ : ∃ Es, (Ds.take j).filter P = Es := ⟨_, rfl⟩
      have hlen : Es.length ≤ 768 := by
        have := List.length_filter_le P (Ds.take j)
        rw [hEs, List.length_take] at this
        omega
      rw [hEs] at HR HX ⊢
      clear hEs hd R0
      obtain ⟨ra, rb, rc, rd, re, rg⟩ := d
      dsimp only at p0 p1 p2 p3 p4 p5 HPd
      cases ht : (ra == T)
      · have HX' := hide (show (Ds.take (j + 1)).filter P = Es by rw [HX.out, HPd.out, ht]; simp)
        go_wp2
        go_roundw
        case rel =>
          refine ⟨j + 1, a2, c2, by omega, by simp, ?_, ?_, HE.out⟩
          · rw [HX'.out]
          · rw [HX'.out]; exact HR.out
        case measure => simp [intOf]; omega
      · have HX' := hide (show (Ds.take (j + 1)).filter P = Es ++ [⟨ra, rb, rc, rd, re, rg⟩] by rw [HX.out, HPd.out, ht]; simp)
        go_upto_region 6 with fail
        have HR3 := hide (HR.out.below (be1 wr (.cells #[.int .i64 ra, .int .i64 rb, .int .i64 rc, .int .i64 rd, .int .i64 re, .int .i64 rg] 58)))
        have HE3 := hide (lec HE.out (be1 wr (.cells #[.int .i64 ra, .int .i64 rb, .int .i64 rc, .int .i64 rd, .int .i64 re, .int .i64 rg] 58)))
        have HNC := hide (show ∀ (j : Nat) (u : Value), (Det.vals ⟨ra, rb, rc, rd, re, rg⟩)[j]? = some u → (wr.alloc (.cells #[.int .i64 ra, .int .i64 rb, .int .i64 rc, .int .i64 rd, .int .i64 re, .int .i64 rg] 58)).cell? ((⟨wr.heap.size, 0, none⟩ : Addr).add j) = some u from fun j u hj => new_cells _ (Det.vals ⟨ra, rb, rc, rd, re, rg⟩) 58 j u hj)
        have HV := hide (dvals_one ⟨ra, rb, rc, rd, re, rg⟩)
        have HSZ := hide (show w.heap.size ≤ (wr.alloc (.cells #[.int .i64 ra, .int .i64 rb, .int .i64 rc, .int .i64 rd, .int .i64 re, .int .i64 rg] 58)).heap.size from HE3.out.size)
        have HMX := hide (show Es.length + 1 ≤ maxLen ∧ (Es.length + 1) * 48 ≤ 140737488355328 by unfold maxLen; omega)
        go_wp2_with (at_builtin; refine wpList_append_own _ rfl (.tmp 20) (.tmp 25) 34 rfl w.heap.size 58 i0 _ 6 48 Try.underlying34 hi0 hz0 hz1 hz2 rfl (by decide) (.slice a2 Es.length c2) Es.length (Es.flatMap Det.vals) rfl HR3.out ⟨wr.heap.size, 0, none⟩ 1 1 (Det.vals ⟨ra, rb, rc, rd, re, rg⟩) rfl rfl HNC.out HV.out HMX.out.1 HMX.out.2 HSZ.out ?_; intro v' w3 hown hgrow hnil; have HE4 := hide (bel_grown HE3.out HR3.out hgrow); have HR4 := hide hown; obtain ⟨a4, c4, rfl⟩ := own_form hown; clear hown hgrow hnil)
        go_roundw
        case rel =>
          refine ⟨j + 1, a4, c4, by omega, by simp, ?_, ?_, HE4.out⟩
          · rw [HX'.out]; simp
          · rw [HX'.out]
            have := HR4.out
            show World.ownsRow _ _ _ _ _ _ _
            simpa using this
        case measure => simp [intOf]; omega
    · have hlti : ¬ (j : Int) < (n : Int) := by omega
      obtain rfl : j = n := by omega
      have htk : (Ds.take j).filter P = Ds.filter P := by rw [HN.out, List.take_length]
      rw [htk] at HR ⊢
      clear htk R0
      go_wp2
      go_ret
      exact ⟨_, _, _, rfl, rfl, HR.out, HE.out⟩
end Go.Proofs.Qxb6500776a
