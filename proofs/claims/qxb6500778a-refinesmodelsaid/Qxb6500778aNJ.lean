import Derived.Test.Qxb6500778aNI
namespace Go.Proofs.Qxb6500778a
open Go.RowKit

/-- run at work: the box rb of the batch, the copy at b', the undoing changes at ug. -/
structure RX (w0 w : World) (rb b' ug : Nat) (id : Int) (v : Value) (C : List Chg) (B0 : Nat) (N : Nat → Dv) (vr va : Nat → Value) (n : Nat) (M : List Chg) : Prop where
  b0 : w.cell? ⟨rb, 0, none⟩ = some (.int .i64 id)
  b1 : w.cell? ⟨rb, 1, none⟩ = some v
  own : w.ownsRow B0 45 9 v C.length (flatC C)
  ol : ∀ k, v.ownBlock = some k → k < w0.heap.size
  na : NA w b' N vr va
  un : w.ownsRow w0.heap.size 45 9 (.slice (some ⟨ug, 0, none⟩) n n) n (flatC M)
  ex : Ex (fun _ => False) w0 w
  hb : w0.heap.size ≤ rb
  hbb : rb < b'
  hu : ¬ Foot b' vr va ug
  hur : rb < ug
section
variable {w0 w w' : World} {rb b' ug : Nat} {id : Int} {v : Value} {C : List Chg} {B0 : Nat} {N N' : Nat → Dv} {vr va vr' va' : Nat → Value} {n : Nat} {M M' : List Chg}
theorem RX.turn (h : RX w0 w rb b' ug id v C B0 N vr va n M) (na' : NA w' b' N' vr' va') (e : Ex (Foot b' vr va) w w') (hf : ∀ k, Foot b' vr' va' k → Foot b' vr va k ∨ w.heap.size ≤ k) : RX w0 w' rb b' ug id v C B0 N' vr' va' n M := by
  have h1 := h.hb
  have h2 := h.hbb
  have hrb : ¬ Foot b' vr va rb := fun hk => by have := h.na.foot_ge hk; omega
  have hug : ug < w.heap.size := (h.un.lt ug rfl).2
  refine ⟨e.cell hrb h.b0, e.cell hrb h.b1, own_kept h.own e (fun k hk hk2 => by have := h.na.foot_ge hk2; have := h.ol k hk; omega), h.ol, na', own_kept h.un e (fun k hk hk2 => h.hu (by injection hk with hk; have hk : ug = k := hk; rw [hk]; exact hk2)), h.ex.trans2 e (fun j hj => .inr (by have := h.na.foot_ge hj; omega)), h1, h2, fun hk => ?_, h.hur⟩
  rcases hf ug hk with z | z
  · exact h.hu z
  · omega
theorem RX.new (h : RX w0 w rb b' ug id v C B0 N vr va n M) (e : Ex (fun _ => False) w w') : RX w0 w' rb b' ug id v C B0 N vr va n M :=
  h.turn (h.na.new e) (e.mono (fun _ x => x.elim)) (fun _ hk => .inl hk)
theorem RX.put (h : RX w0 w rb b' ug id v C B0 N vr va n M) (vs : List Value) (o : Nat) (hM : setMany (flatC M) o vs = flatC M') : RX w0 (w.setCells ug o vs) rb b' ug id v C B0 N vr va n M' := by
  have e : Ex (fun k => k = ug) w (w.setCells ug o vs) := Ex.sets (S := fun k => k = ug) (p := ug) rfl vs o w (Ex.refl _ _)
  have h1 := h.hb
  have h2 := h.hbb
  have h3 := h.hur
  have := own_sets vs w o _ h.un
  rw [hM] at this
  exact ⟨e.cell (by omega) h.b0, e.cell (by omega) h.b1, own_kept h.own e (fun k hk (x : k = ug) => by have := h.ol k hk; omega), h.ol, h.na.keep e (fun k hk (x : k = ug) => h.hu (by rw [← x]; exact hk)), this, h.ex.trans2 e (fun j (hj : j = ug) => .inr (by omega)), h1, h2, h.hu, h3⟩
end
/-- The answer of run. -/
def RunPost (w : World) (R : (Nat → Dv) × List Chg × Int × Int) (n : Nat) (e : Ending) (w' : World) : Prop :=
  Ex (fun _ => False) w w' ∧
  ((R.2.2.1 ≠ 0 ∧ e = .returned (.tuple #[.pointer none, .slice none 0 0, .int .i64 R.2.2.1, .int .i64 R.2.2.2])) ∨
   (R.2.2.1 = 0 ∧ R.2.2.2 = 0 ∧ ∃ b' ug vr va, e = .returned (.tuple #[.pointer (some ⟨b', 0, none⟩), .slice (some ⟨ug, 0, none⟩) n n, .int .i64 0, .int .i64 0]) ∧ w.heap.size ≤ b' ∧ NA w' b' R.1 vr va ∧ w'.ownsRow w.heap.size 45 9 (.slice (some ⟨ug, 0, none⟩) n n) n (flatC R.2.1) ∧ ¬ Foot b' vr va ug))
theorem rep_set (n i : Nat) (hi : i < n) (u : Chg) (U : List Chg) : (List.replicate (n - i) Chg.zero ++ U).set (n - 1 - i) u = List.replicate (n - (i + 1)) Chg.zero ++ u :: U := by
  have e : n - i = (n - (i + 1)) + 1 := by omega
  rw [e, List.replicate_succ', List.append_assoc, List.set_append, List.length_replicate, if_neg (by omega), show n - 1 - i - (n - (i + 1)) = 0 by omega]
  rfl
set_option maxRecDepth 100000 in
set_option maxHeartbeats 16000000 in
/-- Network.run -/
theorem run_any (w : World) (b B0 : Nat) (N : Nat → Dv) (vr va : Nat → Value) (id : Int) (v : Value) (C : List Chg) (hn : NA w b N vr va) (hok : NetOk N) (ho : w.ownsRow B0 45 9 v C.length (flatC C)) (hlen : C.length ≤ 1099511627776) :
    Calls Try.prog 37 #[.pointer (some ⟨b, 0, none⟩), .agg #[.int .i64 id, v]] w (RunPost w (runP N id C) C.length) := by
  have hol : ∀ k, v.ownBlock = some k → k < w.heap.size := fun k hk => (ho.lt k hk).2
  obtain ⟨sa, sc, rfl⟩ := own_len ho
  obtain ⟨n, hnl⟩ : ∃ n, C.length = n := ⟨_, rfl⟩
  rw [hnl] at ho hlen hol ⊢
  have HNL := hide hnl
  clear hnl
  obtain ⟨W, hW⟩ : ∃ W, W = w.alloc (.cells #[.int .i64 id, .slice sa n sc] 52) := ⟨_, rfl⟩
  have HE : Hid (Ex (fun _ => False) w W) := by rw [hW]; exact (Ex.refl _ w).alloc _
  have HO : Hid (W.ownsRow B0 45 9 (.slice sa n sc) n (flatC C)) := by rw [hW]; exact ho.alloc _
  have HN := hide (hn.new HE.out)
  have nc := fun j u h => new_cells w [.int .i64 id, .slice sa n sc] 52 j u h
  have c0 := nc 0 _ rfl
  have c1 := nc 1 _ rfl
  simp only [Addr.add_mid, Nat.zero_add] at c0 c1
  replace c0 : W.cell? ⟨w.heap.size, 0, none⟩ = some (.int .i64 id) := by rw [hW]; exact c0
  replace c1 : W.cell? ⟨w.heap.size, 1, none⟩ = some (.slice sa n sc) := by rw [hW]; exact c1
  clear nc ho hn
  have HCK := hide (check_any W B0 id (.slice sa n sc) C (by rw [HNL.out]; exact HO.out) (by rw [HNL.out]; exact hlen))
  obtain ⟨ce, ca, hce⟩ : ∃ x y, checkP id C = (x, y) := ⟨_, _, rfl⟩
  rw [hce] at HCK
  have HR : Hid (runP N id C = if ce = 0 then runL N C 0 [] else (N, [], ce, ca)) := by show _ = _; unfold runP; rw [hce]
  have HOKC : Hid (ce = 0 → (0 ≤ id ∧ id ≤ 999999) ∧ C.length ≤ 128 ∧ ∀ c ∈ C, GoodC c) := fun h => check_ok (by rw [hce]; exact h)
  clear hce
  simp only [] at HCK
  go_enter Try.func37, Try.ntmps37
  go_upto_region 1 with fail
  rw [← hW]
  clear hW
  obtain ⟨rb, hrb⟩ : ∃ r, w.heap.size = r := ⟨_, rfl⟩
  rw [hrb] at c0 c1 ⊢
  have HRB := hide hrb
  clear hrb
  go_wp2_with fail
  refine HCK.out.mono ?_
  rintro e W1 ⟨rfl, hex⟩
  have HE1 := hide hex
  clear hex HCK
  by_cases hz : ce = 0
  · subst hz
    rw [if_pos rfl] at HR
    obtain ⟨_, hl128, hgood⟩ := HOKC.out rfl
    rw [HNL.out] at hl128
    have HGD := hide hgood
    clear hgood HOKC hlen
    go_wp2_with fail
    refine (clone_any W1 b N vr va (HN.out.new HE1.out) hok).mono ?_
    rintro e W2 ⟨rfl, hex, vr', va', hna⟩
    obtain ⟨b', hb'⟩ : ∃ x, W1.heap.size = x := ⟨_, rfl⟩
    rw [hb'] at hna ⊢
    have HBB : Hid (rb < b') := by
      have h1 := HE1.out.size
      have h2 : rb < W.heap.size := World.block_lt_of_cell? _ _ c0
      show _ < _
      omega
    have HE2 := hide (HE1.out.trans hex)
    have HNA := hide hna
    clear hna hex hb' HE1
    have d1 := HE2.out.cell (fun e => e) c1
    have hmk := make45 W2 n (by omega)
    go_upto_region 6 with fail
    clear hmk d1
    have HRX : Hid (RX w (W2.alloc (.cells (madeCells #[Value.int .i64 0, .int .i64 0, .int .i64 0, .int .i64 0, .int .i64 0, .int .i64 0, .int .i64 0, .bool false, .bool false] (n * 9)) 45)) rb b' W2.heap.size id (.slice sa n sc) C B0 N vr' va' n (List.replicate (n - 0) .zero ++ [])) := by
      have e3 := HE2.out.alloc (.cells (madeCells #[Value.int .i64 0, .int .i64 0, .int .i64 0, .int .i64 0, .int .i64 0, .int .i64 0, .int .i64 0, .bool false, .bool false] (n * 9)) 45)
      have hs : w.heap.size ≤ W2.heap.size := Nat.le_trans HE.out.size HE2.out.size
      refine ⟨e3.cell (fun e => e) c0, e3.cell (fun e => e) c1, by rw [HNL.out]; exact own_kept HO.out e3 (fun _ _ e => e), hol, HNA.out.new ((Ex.refl _ _).alloc _), ?_, HE.out.trans e3, by have := HRB.out; omega, HBB.out, fun hk => by have := HNA.out.foot_lt hk; omega, ?_⟩
      · have := own_made W2 n w.heap.size hs (by omega)
        rwa [Nat.sub_zero, List.append_nil]
      · have := HNA.out.lt
        have := HBB.out
        omega
    generalize W2.alloc (.cells (madeCells #[Value.int .i64 0, .int .i64 0, .int .i64 0, .int .i64 0, .int .i64 0, .int .i64 0, .int .i64 0, .bool false, .bool false] (n * 9)) 45) = W3 at *
    generalize W2.heap.size = ug at *
    clear HNA HE2 c0 c1 HN HO
    go_wp2_with fail
    go_loopw [12] (fun s12 wr => ∃ (i : Nat) (N1 : Nat → Dv) (ur ua : Nat → Value) (U : List Chg), s12 = .int .i64 i ∧ i ≤ n ∧ Hid (RX w wr rb b' ug id (.slice sa n sc) C B0 N1 ur ua n (List.replicate (n - i) .zero ++ U)) ∧ Hid (runL N C 0 [] = runL N1 (C.drop i) i U) ∧ Hid (NetOk N1) ∧ Hid (U.length = i)) (fun s12 _ => n - (intOf s12).toNat)
    case atStart => exact ⟨0, N, _, _, [], rfl, Nat.zero_le _, HRX, rfl, hok, rfl⟩
    case round =>
      clear HRX
      obtain ⟨i, N1, ur, ua, U, rfl, hin, HRX, HRL, HOK, HUL⟩ := hrel
      have d1 := HRX.out.b1
      by_cases hi : i < n
      · have hib : decide ((i : Int) < (n : Int)) = true := decide_eq_true (by omega)
        have hii : (i : Int) < (n : Int) := by omega
        obtain ⟨x, hx⟩ : ∃ x, C[i]? = some x := ⟨_, List.getElem?_eq_getElem (by rw [HNL.out]; exact hi)⟩
        have hown := HRX.out.own
        obtain ⟨g, c2, hv⟩ := own_some hown (by rw [HNL.out]; omega)
        injection hv with hv1 hv2 hv3
        subst hv1
        have HCO := hide (co_of hown (by rw [HNL.out]) hx)
        have hqf : ¬ Foot b' ur ua g := fun hk => by have := HRX.out.na.foot_ge hk; have := HRX.out.ol g rfl; have := HRX.out.hb; have := HRX.out.hbb; omega
        have HGX := hide (HGD.out x (List.mem_of_getElem? hx))
        have HDR : Hid (C.drop i = x :: C.drop (i + 1)) := by
          obtain ⟨hlt, e⟩ := List.getElem?_eq_some_iff.1 hx
          show _ = _
          rw [List.drop_eq_getElem_cons hlt, e]
        rw [HDR.out, runL] at HRL
        obtain ⟨N2, u2, e2, hst⟩ : ∃ a b c, stepP N1 x = (a, b, c) := ⟨_, _, _, rfl⟩
        have HSP := hide (step_any wr g (i * 9) b' N1 ur ua x HCO.out HRX.out.na hqf HGX.out HOK.out)
        have HOK2 := hide (step_ok N1 x HOK.out HGX.out)
        rw [hst] at HRL HSP HOK2
        simp only [] at HRL HSP HOK2
        clear hown hv2 hv3 hx HCO hqf HGX HDR hst
        obtain ⟨kd, dv, hp, pr, ln, ix, cl, pm, up⟩ := u2
        go_wp2_with fail
        refine HSP.out.mono ?_
        rintro e w2 ⟨rfl, ur2, ua2, hna2, hex2, hf2⟩
        have HRX2 := hide (HRX.out.turn hna2 hex2 hf2)
        clear hna2 hex2 hf2 HRX HSP d1
        simp only [chgV, Chg.vals]
        by_cases he : e2 = 0
        · subst he
          rw [if_pos rfl] at HRL
          obtain ⟨k, hk⟩ : ∃ k, n - 1 - i = k := ⟨_, rfl⟩
          have hw1 : IntKind.i64.wrap ((n : Int) - 1) = (n : Int) - 1 := by rw [IntKind.wrap_i64]; omega
          have hw2 : IntKind.i64.wrap ((n : Int) - 1 - i) = (k : Int) := by rw [IntKind.wrap_i64]; omega
          have hki : (k : Int) < (n : Int) := by omega
          have HKK := hide hk
          go_upto_region 12 with fail
          have HC45 := hide (cs_alloc w2 ⟨kd, dv, hp, pr, ln, ix, cl, pm, up⟩ 45)
          have HRX3 := hide (HRX2.out.new ((Ex.refl (fun _ => False) w2).alloc (.cells (Chg.vals ⟨kd, dv, hp, pr, ln, ix, cl, pm, up⟩).toArray 45)))
          simp only [Chg.vals] at HC45 HRX3
          generalize w2.alloc (.cells #[.int .i64 kd, .int .i64 dv, .int .i64 hp, .int .i64 pr, .int .i64 ln, .int .i64 ix, .int .i64 cl, .bool pm, .bool up] 45) = W5 at *
          generalize w2.heap.size = rr at *
          clear HRX2
          have y0 := HC45.out.c0
          have y1 := HC45.out.c1
          have y2 := HC45.out.c2
          have y3 := HC45.out.c3
          have y4 := HC45.out.c4
          have y5 := HC45.out.c5
          have y6 := HC45.out.c6
          have y7 := HC45.out.c7
          have y8 := HC45.out.c8
          simp only [] at y0 y1 y2 y3 y4 y5 y6 y7 y8
          have hM : (List.replicate (n - i) Chg.zero ++ U)[k]? = some .zero := by
            rw [List.getElem?_append_left (by rw [List.length_replicate]; omega), List.getElem?_replicate, if_pos (by omega)]
          have ca : ∀ j, j < 9 → W5.cell? ⟨ug, k * 9 + j, none⟩ = Chg.zero.vals[j]? := fun j hj => by
            rw [HRX3.out.un.cellAt (k * 9 + j) (by omega)]
            exact flat_at Chg.vals 9 ch_len _ k .zero hM j hj
          have z0 := ca 0 (by omega)
          have z1 := ca 1 (by omega)
          have z2 := ca 2 (by omega)
          have z3 := ca 3 (by omega)
          have z4 := ca 4 (by omega)
          have z5 := ca 5 (by omega)
          have z6 := ca 6 (by omega)
          have z7 := ca 7 (by omega)
          have z8 := ca 8 (by omega)
          simp only [Chg.zero, Chg.vals, List.getElem?_cons_zero, List.getElem?_cons_succ, Nat.add_zero] at z0 z1 z2 z3 z4 z5 z6 z7 z8
          have zf := HRX3.out.un.frozenAt
          have HRX4 := hide (HRX3.out.put (M' := List.replicate (n - (i + 1)) Chg.zero ++ ⟨kd, dv, hp, pr, ln, ix, cl, pm, up⟩ :: U) (Chg.vals ⟨kd, dv, hp, pr, ln, ix, cl, pm, up⟩) (k * 9) (by
            rw [set_flat _ k _ (by rw [List.length_append, List.length_replicate]; omega), ← HKK.out, rep_set n i hi]))
          clear ca hM HC45 hk
          go_wp2
          go_roundw
          case rel => exact ⟨i + 1, N2, ur2, ua2, _, by go_num, by omega, HRX4, HRL, HOK2, by show _ = _; rw [List.length_cons, HUL.out]⟩
          case measure => simp [intOf]; omega
        · rw [if_neg he] at HRL
          have heb : (e2 != 0) = true := by simp [he]
          have HEX := hide ((HRX2.out.ex).alloc (.cells (Chg.vals ⟨kd, dv, hp, pr, ln, ix, cl, pm, up⟩).toArray 45))
          simp only [Chg.vals] at HEX
          go_wp2
          refine bodyPost_ret (v := .tuple #[.pointer none, .slice none 0 0, .int .i64 e2, .int .i64 i]) (by simp [results, Try.results37, go_sem]) rfl ?_
          rw [HR.out, HRL.out]
          exact ⟨HEX.out, .inl ⟨he, rfl⟩⟩
      · obtain rfl : i = n := by omega
        have hib : decide ((i : Int) < (i : Int)) = false := decide_eq_false (by omega)
        rw [List.drop_eq_nil_of_le (by rw [HNL.out]; exact Nat.le_refl _), runL] at HRL
        rw [Nat.sub_self, List.replicate_zero, List.nil_append] at HRX
        go_wp2
        refine bodyPost_ret (v := .tuple #[.pointer (some ⟨b', 0, none⟩), .slice (some ⟨ug, 0, none⟩) i i, .int .i64 0, .int .i64 0]) (by simp [results, Try.results37, go_sem]) rfl ?_
        rw [HR.out, HRL.out]
        exact ⟨HRX.out.ex, .inr ⟨rfl, rfl, b', ug, ur, ua, rfl, by have := HRX.out.hb; have := HRX.out.hbb; omega, HRX.out.na, HRX.out.un, HRX.out.hu⟩⟩
  · have hzb : (ce != 0) = true := by simp [hz]
    rw [if_neg hz] at HR
    go_wp2
    refine bodyPost_ret (v := .tuple #[.pointer none, .slice none 0 0, .int .i64 ce, .int .i64 ca]) (by simp [results, Try.results37, go_sem]) rfl ?_
    rw [HR.out]
    exact ⟨HE.out.trans HE1.out, .inl ⟨hz, rfl⟩⟩
end Go.Proofs.Qxb6500778a
