import Derived.Test.Qxb6500778aU1
namespace Go.Proofs.Qxb6500778a
open Go.RowKit

theorem sorted_find : ∀ (L : List Rt), SortedR L → ∀ r ∈ L, L[lowR L r.pr r.ln]? = some r
  | [], _, r, h => by cases h
  | x :: L, hs, r, h => by
    obtain ⟨h1, h2⟩ := List.pairwise_cons.1 hs
    rw [lowR]
    rcases List.mem_cons.1 h with rfl | h
    · have e : rtLt r r.pr r.ln = false := by unfold rtLt; simp
      rw [e, if_neg (by decide)]
      rfl
    · rw [if_pos (h1 r h), List.getElem?_cons_succ]
      exact sorted_find L h2 r h
theorem find_has {L : List Rt} {r : Rt} {p l : Int} (h : L[lowR L p l]? = some r) (h1 : r.pr = p) (h2 : r.ln = l) : hasR L p l = true := by
  unfold hasR
  rw [h]
  simp [h1, h2]
set_option linter.unusedSimpArgs false in
set_option maxRecDepth 100000 in
set_option maxHeartbeats 8000000 in
/-- FindRoute, where the route is there -/
theorem findRoute_hit (w : World) (b : Nat) (N : Nat → Dv) (vr va : Nat → Value) (h : NA w b N vr va) (d : Nat) (hd : d < 16) (hok : DvOk (N d)) (r : Rt) (hr : r ∈ (N d).rt) :
    Calls Try.prog 27 #[.pointer (some ⟨b, 0, none⟩), .int .i64 d, .int .i64 r.pr, .int .i64 r.ln] w fun e w' => e = .returned (.tuple #[.int .i64 r.hp, .bool true]) ∧ Ex (fun _ => False) w w' := by
  have hcap := hok.cap
  have HSE := hide (search_any w b N vr va h d hd r.pr r.ln hok.srt (by omega))
  have hf := sorted_find _ hok.srt r hr
  rw [find_has hf rfl rfl] at HSE
  have c0 := h.r d hd
  obtain ⟨sa, sc, hv⟩ := own_len (h.ro d hd)
  have HO := hide (h.ro d hd)
  rw [hv] at c0 HO
  clear hv h
  generalize (N d).rt = L at *
  obtain ⟨i, hi⟩ : ∃ i, lowR L r.pr r.ln = i := ⟨_, rfl⟩
  rw [hi] at HSE hf
  clear hi
  have hil := (List.getElem?_eq_some_iff.1 hf).1
  obtain ⟨g, cc, hv⟩ := own_some HO.out (by omega)
  injection hv with hv1 hv2 hv3
  subst hv1
  obtain ⟨x0, x1, x2⟩ := rt_cells HO.out rfl hf
  have hdi : (d : Int) < 16 := by omega
  have hii : (i : Int) < (L.length : Int) := by omega
  obtain ⟨n, hn⟩ : ∃ n, L.length = n := ⟨_, rfl⟩
  rw [hn] at c0 hii
  clear hv2 hv3 hn HO hf hil hr
  go_enter Try.func27, Try.ntmps27
  go_wp2_with fail
  refine HSE.out.mono ?_
  rintro e w2 ⟨rfl, m, rfl⟩
  have HE : Hid (Ex (fun _ => False) w (w.drewN m)) := (Ex.refl _ w).drewN m
  have y0 := HE.out.cell (fun e => e) c0
  have y2 := HE.out.cell (fun e => e) x2
  generalize w.drewN m = W at *
  clear c0 x0 x1 x2 HSE
  go_wp2
  exact bodyPost_ret (v := .tuple #[.int .i64 r.hp, .bool true]) (by simp [results, Try.results27, go_sem]) rfl ⟨rfl, HE.out⟩
/-- the real network says what the model's configuration says -/
structure MR (N : Nat → Dv) (M : MN) : Prop where
  up : ∀ d, d < 16 → M.up d = (N d).up
  ac : ∀ d, d < 16 → M.ac d = (N d).ac
  rt : ∀ d, d < 16 → (M.rt d).Perm (N d).rt
  lk : ∀ d e, d < 16 → e < 16 → M.lk d e = lkB (N d).lk e
end Go.Proofs.Qxb6500778a
