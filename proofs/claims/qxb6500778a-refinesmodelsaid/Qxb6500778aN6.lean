import Derived.Test.Qxb6500778aN4
namespace Go.Proofs.Qxb6500778a
open Go.RowKit

theorem ins_eq {α : Type} (L : List α) (z r : α) (i : Nat) (hi : i ≤ L.length) : ((L ++ [z]).take (i + 1) ++ ((L ++ [z]).drop i).take (L.length - i)).set i r = L.take i ++ r :: L.drop i := by
  have h1 : ((L ++ [z]).drop i).take (L.length - i) = L.drop i := by
    rw [List.drop_append_of_le_length hi, List.take_append_of_le_length (by rw [List.length_drop]; omega), List.take_of_length_le (by rw [List.length_drop]; omega)]
  obtain ⟨x, hx⟩ : ∃ x, (L ++ [z])[i]? = some x := ⟨_, List.getElem?_eq_getElem (by simp; omega)⟩
  have h2 : (L ++ [z]).take (i + 1) = L.take i ++ [x] := by
    rw [List.take_add_one, hx, List.take_append_of_le_length hi]
    rfl
  rw [h1, h2, List.append_assoc, List.set_append, List.length_take, Nat.min_eq_left hi, if_neg (Nat.lt_irrefl _), Nat.sub_self]
  rfl
theorem flatR_set (M : List Rt) (i : Nat) (x : Rt) (hx : M[i]? = some x) (a b c : Int) : (((flatR M).set (i * 3) (.int .i64 a)).set (i * 3 + 1) (.int .i64 b)).set (i * 3 + 2) (.int .i64 c) = flatR (M.set i ⟨a, b, c⟩) := by
  have e1 := flat_set Rt.vals 3 rt_len (.int .i64 a) 0 (by omega) M i x ⟨a, x.ln, x.hp⟩ hx rfl
  have hl : i < M.length := (List.getElem?_eq_some_iff.1 hx).1
  have hx1 : (M.set i ⟨a, x.ln, x.hp⟩)[i]? = some ⟨a, x.ln, x.hp⟩ := by rw [List.getElem?_set_self hl]
  have e2 := flat_set Rt.vals 3 rt_len (.int .i64 b) 1 (by omega) _ i _ ⟨a, b, x.hp⟩ hx1 rfl
  rw [List.set_set] at e2
  have hx2 : (M.set i ⟨a, b, x.hp⟩)[i]? = some ⟨a, b, x.hp⟩ := by rw [List.getElem?_set_self hl]
  have e3 := flat_set Rt.vals 3 rt_len (.int .i64 c) 2 (by omega) _ i _ ⟨a, b, c⟩ hx2 rfl
  rw [List.set_set] at e3
  unfold flatR
  rw [e3, e2, e1]
  rfl
theorem Try.inf77 : (Try.prog.info? 77).map (fun i => (i.zero, i.size, i.bytes)) = some (some (.agg #[.int .i64 0, .int .i64 0, .int .i64 0]), 3, 24) := by kernel_rfl
theorem Try.siz77 : (Try.prog.info? 77).map (·.size) = some 3 := by kernel_rfl
section
variable {w0 w w' : World} {q o b r0 r1 d : Nat} {vr0 va0 : Nat → Value} {c : Chg} {N : Nat → Dv} {vr va : Nat → Value} {u : Chg}
theorem ST.rowR (h : ST w0 w q o b r0 r1 vr0 va0 c N vr va u) (hd : d < 16) (e : Ex (fun k => some k = (vr d).ownBlock) w w') {L : List Rt} (ho : w'.ownsRow (b + 1) 77 3 (vr d) L.length (flatR L)) : ST w0 w' q o b r0 r1 vr0 va0 c (upd N d { N d with rt := L }) vr va u :=
  h.turn (h.na.rowR hd e ho) (e.mono fun _ hk => .inr ⟨d, hd, .inl hk.symm⟩) (fun _ hk => .inl hk)
theorem ST.rowA (h : ST w0 w q o b r0 r1 vr0 va0 c N vr va u) (hd : d < 16) (e : Ex (fun k => some k = (va d).ownBlock) w w') {L : List Rl} (ho : w'.ownsRow (b + 1) 81 4 (va d) L.length (flatA L)) : ST w0 w' q o b r0 r1 vr0 va0 c (upd N d { N d with ac := L }) vr va u :=
  h.turn (h.na.rowA hd e ho) (e.mono fun _ hk => .inr ⟨d, hd, .inr hk.symm⟩) (fun _ hk => .inl hk)
theorem ST.growR (h : ST w0 w q o b r0 r1 vr0 va0 c N vr va u) (hd : d < 16) (e : Ex (fun k => some k = (vr d).ownBlock) w w') {L : List Rt} {v : Value} (ho : w'.ownsRow (b + 1) 77 3 v L.length (flatR L)) (hv : ∀ k, v.ownBlock = some k → (vr d).ownBlock = some k ∨ w.heap.size ≤ k) : ST w0 (w'.setCell ⟨b, d * 4, none⟩ v) q o b r0 r1 vr0 va0 c (upd N d { N d with rt := L }) (upd vr d v) va u := by
  refine h.turn (h.na.setR hd (fun k hk => h.na.foot_lt hk) e ho hv) ((e.mono fun k hk => .inr ⟨d, hd, .inl hk.symm⟩).set (p := b) (.inl rfl) _) (fun k hk => ?_)
  rcases hk with hk | ⟨x, hx, hk | hk⟩
  · exact .inl (.inl hk)
  · by_cases hxd : x = d
    · subst hxd
      rw [upd_same] at hk
      rcases hv k hk with z | z
      · exact .inl (.inr ⟨x, hx, .inl z⟩)
      · exact .inr z
    · rw [upd_other _ _ hxd] at hk
      exact .inl (.inr ⟨x, hx, .inl hk⟩)
  · exact .inl (.inr ⟨x, hx, .inr hk⟩)
theorem ST.growA (h : ST w0 w q o b r0 r1 vr0 va0 c N vr va u) (hd : d < 16) (e : Ex (fun k => some k = (va d).ownBlock) w w') {L : List Rl} {v : Value} (ho : w'.ownsRow (b + 1) 81 4 v L.length (flatA L)) (hv : ∀ k, v.ownBlock = some k → (va d).ownBlock = some k ∨ w.heap.size ≤ k) : ST w0 (w'.setCell ⟨b, d * 4 + 1, none⟩ v) q o b r0 r1 vr0 va0 c (upd N d { N d with ac := L }) vr (upd va d v) u := by
  refine h.turn (h.na.setA hd (fun k hk => h.na.foot_lt hk) e ho hv) ((e.mono fun k hk => .inr ⟨d, hd, .inr hk.symm⟩).set (p := b) (.inl rfl) _) (fun k hk => ?_)
  rcases hk with hk | ⟨x, hx, hk | hk⟩
  · exact .inl (.inl hk)
  · exact .inl (.inr ⟨x, hx, .inl hk⟩)
  · by_cases hxd : x = d
    · subst hxd
      rw [upd_same] at hk
      rcases hv k hk with z | z
      · exact .inl (.inr ⟨x, hx, .inr z⟩)
      · exact .inr z
    · rw [upd_other _ _ hxd] at hk
      exact .inl (.inr ⟨x, hx, .inr hk⟩)
end
theorem upd_upd {α : Type} (f : Nat → α) (d : Nat) (x y : α) : upd (upd f d x) d y = upd f d y := by
  funext k
  unfold upd
  split <;> rfl
theorem own_cap {w : World} {B e s n m : Nat} {sa : Option Addr} {sc : Nat} {xs : List Value} (h : w.ownsRow B e s (.slice sa m sc) n xs) : n ≤ sc := by
  obtain ⟨_, ⟨e1, e2⟩ | ⟨g, cap, cur, e1, _, _, h4, _⟩⟩ := h
  · omega
  · injection e1 with _ _ e3; omega
theorem own_row {w : World} {B e s n : Nat} {sa : Option Addr} {sc m : Nat} {xs : List Value} (h : w.ownsRow B e s (.slice sa m sc) n xs) {k : Nat} (hk : (Value.slice sa m sc).ownBlock = some k) : B ≤ k := (h.lt k hk).1
set_option linter.unusedSimpArgs false in
set_option maxRecDepth 100000 in
set_option maxHeartbeats 8000000 in
theorem step_add_there (w : World) (q o b d : Nat) (N : Nat → Dv) (vr va : Nat → Value) (hp pr ln ix cl : Int) (pm up : Bool) (hc : CO w q o ⟨0, d, hp, pr, ln, ix, cl, pm, up⟩) (hn : NA w b N vr va) (hq : ¬ Foot b vr va q) (hd : d < 16) (hs : SortedR (N d).rt) (hcap : (N d).rt.length + (N d).ac.length ≤ 64) (hfnd : hasR (N d).rt pr ln = true) :
    Calls Try.prog 61 #[.pointer (some ⟨b, 0, none⟩), .pointer (some ⟨q, o, none⟩)] w (NPost w b vr va (.tuple #[chgV ⟨0, d, 0, 0, 0, 0, 0, false, false⟩, .int .i64 6]) N) := by
  have hdi : (d : Int) < 16 := by omega
  have HC := hide hc
  have HN := hide hn
  have c1 := hc.c1
  simp only [] at c1
  clear hc hn
  have c1 := ((Ex.refl (fun _ => False) w).alloc (.cells #[.int .i64 0, .int .i64 0, .int .i64 0, .int .i64 0, .int .i64 0, .int .i64 0, .int .i64 0, .bool false, .bool false] 45)).cell (fun e => e) c1
  go_enter Try.func61, Try.ntmps61
  go_upto_region 1 with fail
  go_quiet (fail)
  have HST := fun W hW => hide (st_new HC.out HN.out hq nq { Chg.zero with dv := d } W hW)
  clear HC HN
  simp only [Chg.vals, Chg.zero] at HST
  go_upto_region 3 with fail
  obtain ⟨W, hW⟩ : ∃ W, W = ((w.alloc (.cells #[.int .i64 0, .int .i64 0, .int .i64 0, .int .i64 0, .int .i64 0, .int .i64 0, .int .i64 0, .bool false, .bool false] 45)).drewN nq).alloc (.cells #[.int .i64 0, .int .i64 d, .int .i64 0, .int .i64 0, .int .i64 0, .int .i64 0, .int .i64 0, .bool false, .bool false] 45) := ⟨_, rfl⟩
  rw [← hW]
  have HS := HST W hW
  clear HST hW c1
  obtain ⟨r1, hr1⟩ : ∃ r, w.heap.size + 1 = r := ⟨_, rfl⟩
  rw [hr1] at HS ⊢
  obtain ⟨r0, hr0⟩ : ∃ r, w.heap.size = r := ⟨_, rfl⟩
  rw [hr0] at HS ⊢
  clear hr0 hr1
  have k0 := HS.out.co.c0
  simp only [] at k0
  go_upto_region 5 with fail
  clear k0
  have k3 := HS.out.co.c3
  have k4 := HS.out.co.c4
  simp only [] at k3 k4
  have HSE : ∀ n, Hid (Calls Try.prog 50 #[.pointer (some ⟨b, d * 4, none⟩), .int .i64 pr, .int .i64 ln] (W.drewN n) fun e w' => e = .returned (.tuple #[.int .i64 (lowR (N d).rt pr ln : Nat), .bool (hasR (N d).rt pr ln)]) ∧ ∃ m, w' = (W.drewN n).drewN m) := fun n => search_any (W.drewN n) b N vr va (HS.out.drewN n).na d hd pr ln hs (by omega)
  rw [hfnd] at HSE
  obtain ⟨i0, hi0⟩ : ∃ x, lowR (N d).rt pr ln = x := ⟨_, rfl⟩
  rw [hi0] at HSE
  go_quiet (first | (go_at_call 50; refine Calls.quiet_of (HSE _).out))
  replace HS := hide (HS.out.drewN nq)
  generalize W.drewN nq = W1 at *
  clear HSE k3 k4
  have H_i0 := hide hi0
  clear hi0
  go_upto_region 7 with fail
  have u0 := HS.out.cu.c0
  have R0 := HS.out.cr.c0
  have u1 := HS.out.cu.c1
  have R1 := HS.out.cr.c1
  have u2 := HS.out.cu.c2
  have R2 := HS.out.cr.c2
  have u3 := HS.out.cu.c3
  have R3 := HS.out.cr.c3
  have u4 := HS.out.cu.c4
  have R4 := HS.out.cr.c4
  have u5 := HS.out.cu.c5
  have R5 := HS.out.cr.c5
  have u6 := HS.out.cu.c6
  have R6 := HS.out.cr.c6
  have u7 := HS.out.cu.c7
  have R7 := HS.out.cr.c7
  have u8 := HS.out.cu.c8
  have R8 := HS.out.cr.c8
  have uf := HS.out.cu.fr
  have Rf := HS.out.cr.fr
  have h01 := HS.out.h1
  simp only [Chg.zero] at u0 R0 u1 R1 u2 R2 u3 R3 u4 R4 u5 R5 u6 R6 u7 R7 u8 R8
  have HFIN := fun (v : Value) (y0 y1 y2 y3 y4 y5 y6 y7 y8 : Value) => hide (HS.out.fin (v := v) y0 y1 y2 y3 y4 y5 y6 y7 y8)
  go_wp2
  refine bodyPost_ret (v := .tuple #[chgV ⟨0, d, 0, 0, 0, 0, 0, false, false⟩, .int .i64 6]) (by simp [results, Try.results61, go_sem, chgV, Chg.vals, R0, R1, R2, R3, R4, R5, R6, R7, R8]) rfl ?_
  exact (HFIN _ _ _ _ _ _ _ _ _ _).out
set_option linter.unusedSimpArgs false in
set_option maxRecDepth 100000 in
set_option maxHeartbeats 8000000 in
theorem step_add_full (w : World) (q o b d : Nat) (N : Nat → Dv) (vr va : Nat → Value) (hp pr ln ix cl : Int) (pm up : Bool) (hc : CO w q o ⟨0, d, hp, pr, ln, ix, cl, pm, up⟩) (hn : NA w b N vr va) (hq : ¬ Foot b vr va q) (hd : d < 16) (hs : SortedR (N d).rt) (hfnd : hasR (N d).rt pr ln = false) (hfull : (N d).rt.length + (N d).ac.length = 64) :
    Calls Try.prog 61 #[.pointer (some ⟨b, 0, none⟩), .pointer (some ⟨q, o, none⟩)] w (NPost w b vr va (.tuple #[chgV ⟨0, d, 0, 0, 0, 0, 0, false, false⟩, .int .i64 8]) N) := by
  have hdi : (d : Int) < 16 := by omega
  have HC := hide hc
  have HN := hide hn
  have c1 := hc.c1
  simp only [] at c1
  clear hc hn
  have c1 := ((Ex.refl (fun _ => False) w).alloc (.cells #[.int .i64 0, .int .i64 0, .int .i64 0, .int .i64 0, .int .i64 0, .int .i64 0, .int .i64 0, .bool false, .bool false] 45)).cell (fun e => e) c1
  go_enter Try.func61, Try.ntmps61
  go_upto_region 1 with fail
  go_quiet (fail)
  have HST := fun W hW => hide (st_new HC.out HN.out hq nq { Chg.zero with dv := d } W hW)
  clear HC HN
  simp only [Chg.vals, Chg.zero] at HST
  go_upto_region 3 with fail
  obtain ⟨W, hW⟩ : ∃ W, W = ((w.alloc (.cells #[.int .i64 0, .int .i64 0, .int .i64 0, .int .i64 0, .int .i64 0, .int .i64 0, .int .i64 0, .bool false, .bool false] 45)).drewN nq).alloc (.cells #[.int .i64 0, .int .i64 d, .int .i64 0, .int .i64 0, .int .i64 0, .int .i64 0, .int .i64 0, .bool false, .bool false] 45) := ⟨_, rfl⟩
  rw [← hW]
  have HS := HST W hW
  clear HST hW c1
  obtain ⟨r1, hr1⟩ : ∃ r, w.heap.size + 1 = r := ⟨_, rfl⟩
  rw [hr1] at HS ⊢
  obtain ⟨r0, hr0⟩ : ∃ r, w.heap.size = r := ⟨_, rfl⟩
  rw [hr0] at HS ⊢
  clear hr0 hr1
  have k0 := HS.out.co.c0
  simp only [] at k0
  go_upto_region 5 with fail
  clear k0
  have k3 := HS.out.co.c3
  have k4 := HS.out.co.c4
  simp only [] at k3 k4
  have HSE : ∀ n, Hid (Calls Try.prog 50 #[.pointer (some ⟨b, d * 4, none⟩), .int .i64 pr, .int .i64 ln] (W.drewN n) fun e w' => e = .returned (.tuple #[.int .i64 (lowR (N d).rt pr ln : Nat), .bool (hasR (N d).rt pr ln)]) ∧ ∃ m, w' = (W.drewN n).drewN m) := fun n => search_any (W.drewN n) b N vr va (HS.out.drewN n).na d hd pr ln hs (by omega)
  rw [hfnd] at HSE
  obtain ⟨i0, hi0⟩ : ∃ x, lowR (N d).rt pr ln = x := ⟨_, rfl⟩
  rw [hi0] at HSE
  go_quiet (first | (go_at_call 50; refine Calls.quiet_of (HSE _).out))
  replace HS := hide (HS.out.drewN nq)
  generalize W.drewN nq = W1 at *
  clear HSE k3 k4
  have H_i0 := hide hi0
  clear hi0
  go_wp2_with fail
  refine (rules_any _ b N vr va HS.out.na d hd (by omega) (by omega)).mono ?_
  rintro e W2 ⟨rfl, mq, rfl⟩
  replace HS := hide (HS.out.drewN mq)
  generalize W1.drewN mq = W2 at *
  have hfb : decide ((64 : Int) ≤ (((N d).rt.length + (N d).ac.length : Nat) : Int)) = true := decide_eq_true (by omega)
  generalize ((N d).rt.length + (N d).ac.length : Nat) = tot at *
  go_upto_region 9 with fail
  have u0 := HS.out.cu.c0
  have R0 := HS.out.cr.c0
  have u1 := HS.out.cu.c1
  have R1 := HS.out.cr.c1
  have u2 := HS.out.cu.c2
  have R2 := HS.out.cr.c2
  have u3 := HS.out.cu.c3
  have R3 := HS.out.cr.c3
  have u4 := HS.out.cu.c4
  have R4 := HS.out.cr.c4
  have u5 := HS.out.cu.c5
  have R5 := HS.out.cr.c5
  have u6 := HS.out.cu.c6
  have R6 := HS.out.cr.c6
  have u7 := HS.out.cu.c7
  have R7 := HS.out.cr.c7
  have u8 := HS.out.cu.c8
  have R8 := HS.out.cr.c8
  have uf := HS.out.cu.fr
  have Rf := HS.out.cr.fr
  have h01 := HS.out.h1
  simp only [Chg.zero] at u0 R0 u1 R1 u2 R2 u3 R3 u4 R4 u5 R5 u6 R6 u7 R7 u8 R8
  have HFIN := fun (v : Value) (y0 y1 y2 y3 y4 y5 y6 y7 y8 : Value) => hide (HS.out.fin (v := v) y0 y1 y2 y3 y4 y5 y6 y7 y8)
  go_wp2
  refine bodyPost_ret (v := .tuple #[chgV ⟨0, d, 0, 0, 0, 0, 0, false, false⟩, .int .i64 8]) (by simp [results, Try.results61, go_sem, chgV, Chg.vals, R0, R1, R2, R3, R4, R5, R6, R7, R8]) rfl ?_
  exact (HFIN _ _ _ _ _ _ _ _ _ _).out
end Go.Proofs.Qxb6500778a
