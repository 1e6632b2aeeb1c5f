import Derived.Test.Qxb6500778aN2
namespace Go.Proofs.Qxb6500778a
open Go.RowKit

def rtLt (r : Rt) (p l : Int) : Bool := decide (r.pr < p) || ((r.pr == p) && decide (r.ln < l))
def SortedR (L : List Rt) : Prop := L.Pairwise (fun a b => rtLt a b.pr b.ln = true)
def lowR : List Rt → Int → Int → Nat
  | [], _, _ => 0
  | r :: L, p, l => if rtLt r p l = true then lowR L p l + 1 else 0
def hasR (L : List Rt) (p l : Int) : Bool := match L[lowR L p l]? with
  | some r => (r.pr == p) && (r.ln == l)
  | none => false
theorem lowR_le : ∀ (L : List Rt) (p l : Int), lowR L p l ≤ L.length
  | [], _, _ => Nat.le_refl _
  | r :: L, p, l => by
    have := lowR_le L p l
    rw [lowR, List.length_cons]
    split <;> omega
theorem rtLt_trans {a b : Rt} {p l : Int} (h1 : rtLt a b.pr b.ln = true) (h2 : rtLt b p l = true) : rtLt a p l = true := by
  simp only [rtLt, Bool.or_eq_true, decide_eq_true_eq, Bool.and_eq_true, beq_iff_eq] at *
  omega
theorem low_iff : ∀ (L : List Rt) (p l : Int), SortedR L → ∀ (i : Nat) (r : Rt), L[i]? = some r → (rtLt r p l = true ↔ i < lowR L p l)
  | [], _, _, _, i, r, h => by simp at h
  | x :: L, p, l, hs, 0, r, h => by
    simp only [List.getElem?_cons_zero, Option.some.injEq] at h
    subst h
    rw [lowR]
    split
    · rename_i h; simp [h]
    · rename_i h; simp [h]
  | x :: L, p, l, hs, i + 1, r, h => by
    obtain ⟨hx, hs⟩ := List.pairwise_cons.1 hs
    rw [List.getElem?_cons_succ] at h
    have ih := low_iff L p l hs i r h
    have hm := hx r (List.mem_of_getElem? h)
    rw [lowR]
    split
    · rw [ih]; omega
    · rename_i hn
      constructor
      · intro h; exact absurd (rtLt_trans hm h) hn
      · intro h; omega
theorem rt_cells {w : World} {B : Nat} {v : Value} {L : List Rt} (h : w.ownsRow B 77 3 v L.length (flatR L)) {g c : Nat} (hv : v = .slice (some ⟨g, 0, none⟩) L.length c) {i : Nat} {r : Rt} (hi : L[i]? = some r) :
    w.cell? ⟨g, i * 3, none⟩ = some (.int .i64 r.pr) ∧ w.cell? ⟨g, i * 3 + 1, none⟩ = some (.int .i64 r.ln) ∧ w.cell? ⟨g, i * 3 + 2, none⟩ = some (.int .i64 r.hp) := by
  subst hv
  have f := fun j hj => flat_at Rt.vals 3 rt_len L i r hi j hj
  have c := fun j u hu => h.cells (g := g) rfl j u hu
  refine ⟨?_, ?_, ?_⟩
  · have := c (i * 3 + 0) _ (f 0 (by omega)); rwa [Addr.add_mid, Nat.zero_add] at this
  · have := c (i * 3 + 1) _ (f 1 (by omega)); rwa [Addr.add_mid, Nat.zero_add] at this
  · have := c (i * 3 + 2) _ (f 2 (by omega)); rwa [Addr.add_mid, Nat.zero_add] at this
theorem rl_cells {w : World} {B : Nat} {v : Value} {L : List Rl} (h : w.ownsRow B 81 4 v L.length (flatA L)) {g c : Nat} (hv : v = .slice (some ⟨g, 0, none⟩) L.length c) {i : Nat} {r : Rl} (hi : L[i]? = some r) :
    w.cell? ⟨g, i * 4, none⟩ = some (.bool r.pm) ∧ w.cell? ⟨g, i * 4 + 1, none⟩ = some (.int .i64 r.pr) ∧ w.cell? ⟨g, i * 4 + 2, none⟩ = some (.int .i64 r.ln) ∧ w.cell? ⟨g, i * 4 + 3, none⟩ = some (.int .i64 r.cl) := by
  subst hv
  have f := fun j hj => flat_at Rl.vals 4 rl_len L i r hi j hj
  have c := fun j u hu => h.cells (g := g) rfl j u hu
  refine ⟨?_, ?_, ?_, ?_⟩
  · have := c (i * 4 + 0) _ (f 0 (by omega)); rwa [Addr.add_mid, Nat.zero_add] at this
  · have := c (i * 4 + 1) _ (f 1 (by omega)); rwa [Addr.add_mid, Nat.zero_add] at this
  · have := c (i * 4 + 2) _ (f 2 (by omega)); rwa [Addr.add_mid, Nat.zero_add] at this
  · have := c (i * 4 + 3) _ (f 3 (by omega)); rwa [Addr.add_mid, Nat.zero_add] at this
set_option maxRecDepth 100000 in
/-- Rules -/
theorem rules_any (w : World) (b : Nat) (N : Nat → Dv) (vr va : Nat → Value) (h : NA w b N vr va) (d : Nat) (hd : d < 16) (h1 : (N d).rt.length ≤ 1000000) (h2 : (N d).ac.length ≤ 1000000) :
    Calls Try.prog 21 #[.pointer (some ⟨b, d * 4, none⟩)] w fun e w' => e = .returned (.int .i64 (((N d).rt.length + (N d).ac.length : Nat) : Int)) ∧ ∃ m, w' = w.drewN m := by
  have c0 := h.r d hd
  have c1 := h.a d hd
  obtain ⟨sa, sc, e1⟩ := own_len (h.ro d hd)
  obtain ⟨ta, tc, e2⟩ := own_len (h.ao d hd)
  rw [e1] at c0
  rw [e2] at c1
  clear h e1 e2
  obtain ⟨n, hn⟩ : ∃ n, (N d).rt.length = n := ⟨_, rfl⟩
  obtain ⟨m, hm⟩ : ∃ n, (N d).ac.length = n := ⟨_, rfl⟩
  rw [hn] at c0 h1 ⊢
  rw [hm] at c1 h2 ⊢
  clear hn hm
  have hw : IntKind.i64.wrap ((n : Int) + m) = ((n + m : Nat) : Int) := by rw [IntKind.wrap_i64]; omega
  go_enter Try.func21, Try.ntmps21
  go_wp2_with fail
  go_quiet (fail)
  go_wp2
  go_ret
  exact ⟨by rw [Int.natCast_add]; rfl, _, rfl⟩
set_option maxRecDepth 100000 in
set_option maxHeartbeats 4000000 in
/-- search -/
theorem search_any (w : World) (b : Nat) (N : Nat → Dv) (vr va : Nat → Value) (h : NA w b N vr va) (d : Nat) (hd : d < 16) (p l : Int) (hs : SortedR (N d).rt) (hlen : (N d).rt.length ≤ 1000000) :
    Calls Try.prog 50 #[.pointer (some ⟨b, d * 4, none⟩), .int .i64 p, .int .i64 l] w fun e w' => e = .returned (.tuple #[.int .i64 (lowR (N d).rt p l : Nat), .bool (hasR (N d).rt p l)]) ∧ ∃ m, w' = w.drewN m := by
  have c0 := h.r d hd
  obtain ⟨sa, sc, e1⟩ := own_len (h.ro d hd)
  have HO := hide (h.ro d hd)
  obtain ⟨L, hL⟩ : ∃ L, (N d).rt = L := ⟨_, rfl⟩
  rw [hL] at e1 HO hs hlen ⊢
  rw [e1] at c0 HO
  clear h e1 hL
  obtain ⟨lo', hlo⟩ : ∃ k, lowR L p l = k := ⟨_, rfl⟩
  have HLI : Hid (∀ (i : Nat) (r : Rt), L[i]? = some r → (rtLt r p l = true ↔ i < lo')) := by rw [← hlo]; exact low_iff L p l hs
  have hle : lo' ≤ L.length := by rw [← hlo]; exact lowR_le L p l
  have HH : Hid (hasR L p l = match L[lo']? with | some r => (r.pr == p) && (r.ln == l) | none => false) := by rw [← hlo]; rfl
  rw [hlo]
  clear hs hlo
  go_enter Try.func50, Try.ntmps50
  go_wp2_with fail
  go_quiet (fail)
  have C0 := c0
  have e0 : (w.drewN nq).cell? ⟨b, d * 4, none⟩ = some (.slice sa L.length sc) := by simpa [go_sem] using c0
  obtain ⟨W, hW⟩ : ∃ W, W = w.drewN nq := ⟨_, rfl⟩
  rw [← hW] at e0 ⊢
  have HWW : Hid (∃ m, W = w.drewN m) := ⟨nq, hW⟩
  have HOW : Hid (W.ownsRow (b + 1) 77 3 (.slice sa L.length sc) L.length (flatR L)) := by rw [hW]; exact own_kept HO.out ((Ex.refl (fun _ => False) w).drewN nq) (fun _ _ e => e)
  clear hW c0 C0 HO
  go_wp2_with fail
  go_loopw [8, 9] (fun s8 s9 wr => ∃ (lo hi : Nat), s8 = .int .i64 lo ∧ s9 = .int .i64 hi ∧ lo ≤ lo' ∧ lo' ≤ hi ∧ hi ≤ L.length ∧ W = wr) (fun s8 s9 _ => (intOf s9).toNat - (intOf s8).toNat)
  case atStart => exact ⟨0, L.length, rfl, rfl, Nat.zero_le _, hle, Nat.le_refl _, rfl⟩
  case round =>
    obtain ⟨lo, hi, rfl, rfl, h1, h2, h3, rfl⟩ := hrel
    by_cases hlt : lo < hi
    · have d1 : decide ((lo : Int) < (hi : Int)) = true := decide_eq_true (by omega)
      obtain ⟨mid, hmid⟩ : ∃ m, (lo + hi) / 2 = m := ⟨_, rfl⟩
      have hm1 : lo ≤ mid ∧ mid < hi := by omega
      have hw1 : IntKind.i64.wrap ((lo : Int) + hi) = ((lo + hi : Nat) : Int) := by rw [IntKind.wrap_i64]; omega
      have hmi : ((lo : Int) + hi) / 2 < (L.length : Int) := by omega
      obtain ⟨r, hr⟩ : ∃ r, L[mid]? = some r := ⟨_, List.getElem?_eq_getElem (by omega)⟩
      obtain ⟨g, c, hv⟩ := own_some HOW.out (by omega)
      injection hv with hv1 hv2 hv3
      subst hv1
      obtain ⟨k0, k1, k2⟩ := rt_cells HOW.out rfl hr
      have HI := HLI.out mid r hr
      obtain ⟨rp, rl, rh⟩ := r
      simp only [] at k0 k1 k2
      obtain ⟨b1, hb1⟩ : ∃ x, decide (rp < p) = x := ⟨_, rfl⟩
      obtain ⟨b2, hb2⟩ : ∃ x, (rp == p) = x := ⟨_, rfl⟩
      obtain ⟨b3, hb3⟩ : ∃ x, decide (rl < l) = x := ⟨_, rfl⟩
      have HI2 : Hid ((b1 || (b2 && b3)) = true ↔ mid < lo') := by
        have := HI
        unfold rtLt at this
        rw [hb1, hb2, hb3] at this
        exact this
      have HMM := hide hmid
      rw [← hmid] at k0 k1
      clear HI hr hmid k2
      obtain ⟨bb, hbb⟩ : ∃ x, (b1 || (b2 && b3)) = x := ⟨_, rfl⟩
      rw [hbb] at HI2
      cases bb
      · have hmlo : lo' ≤ mid := by
          have := HI2.out
          rcases Nat.lt_or_ge mid lo' with z | z
          · exact absurd (this.2 z) (by decide)
          · exact z
        cases b1
        · cases b2
          · go_wp2
            go_roundw
            case rel => exact ⟨lo, mid, rfl, by congr 1; have := HMM.out; omega, h1, hmlo, by omega, trivial⟩
            case measure => simp [intOf]; omega
          · cases b3
            · go_wp2
              go_roundw
              case rel => exact ⟨lo, mid, rfl, by congr 1; have := HMM.out; omega, h1, hmlo, by omega, trivial⟩
              case measure => simp [intOf]; omega
            · cases hbb
        · cases hbb
      · have hmlo : mid + 1 ≤ lo' := HI2.out.1 rfl
        cases b1
        · cases b2
          · cases hbb
          · cases b3
            · cases hbb
            · go_wp2
              go_roundw
              case rel => exact ⟨mid + 1, hi, by congr 1; have := HMM.out; omega, rfl, hmlo, h2, h3, trivial⟩
              case measure => simp [intOf]; omega
        · go_wp2
          go_roundw
          case rel => exact ⟨mid + 1, hi, by congr 1; have := HMM.out; omega, rfl, hmlo, h2, h3, trivial⟩
          case measure => simp [intOf]; omega
    · have d1 : decide ((lo : Int) < (hi : Int)) = false := decide_eq_false (by omega)
      obtain rfl : lo = lo' := by omega
      obtain rfl : hi = lo := by omega
      clear h1 h2
      go_upto_region 8 with fail
      by_cases hlast : hi < L.length
      · have d2 : decide ((hi : Int) < (L.length : Int)) = true := decide_eq_true (by omega)
        have hmi : (hi : Int) < (L.length : Int) := by omega
        obtain ⟨r, hr⟩ : ∃ r, L[hi]? = some r := ⟨_, List.getElem?_eq_getElem hlast⟩
        obtain ⟨g, c, hv⟩ := own_some HOW.out (by omega)
        injection hv with hv1 hv2 hv3
        subst hv1
        obtain ⟨k0, k1, k2⟩ := rt_cells HOW.out rfl hr
        rw [hr] at HH
        obtain ⟨rp, rl, rh⟩ := r
        simp only [] at k0 k1 k2 HH
        obtain ⟨b2, hb2⟩ : ∃ x, (rp == p) = x := ⟨_, rfl⟩
        obtain ⟨b3, hb3⟩ : ∃ x, (rl == l) = x := ⟨_, rfl⟩
        rw [hb2, hb3] at HH
        clear hr k2
        cases b2
        · go_quiet (fail)
          go_wp2
          obtain ⟨m, hm⟩ := HWW.out
          exact bodyPost_ret (v := .tuple #[.int .i64 hi, .bool false]) (by simp [results, Try.results50, go_sem]) rfl ⟨by rw [HH.out]; rfl, m + nq, by rw [hm, World.drewN_drewN]⟩
        · cases b3
          · go_quiet (fail)
            go_wp2
            obtain ⟨m, hm⟩ := HWW.out
            exact bodyPost_ret (v := .tuple #[.int .i64 hi, .bool false]) (by simp [results, Try.results50, go_sem]) rfl ⟨by rw [HH.out]; rfl, m + nq, by rw [hm, World.drewN_drewN]⟩
          · go_quiet (fail)
            go_wp2
            obtain ⟨m, hm⟩ := HWW.out
            exact bodyPost_ret (v := .tuple #[.int .i64 hi, .bool true]) (by simp [results, Try.results50, go_sem]) rfl ⟨by rw [HH.out]; rfl, m + nq, by rw [hm, World.drewN_drewN]⟩
      · have d2 : decide ((hi : Int) < (L.length : Int)) = false := decide_eq_false (by omega)
        rw [List.getElem?_eq_none (by omega)] at HH
        go_quiet (fail)
        go_wp2
        obtain ⟨m, hm⟩ := HWW.out
        exact bodyPost_ret (v := .tuple #[.int .i64 hi, .bool false]) (by simp [results, Try.results50, go_sem]) rfl ⟨by rw [HH.out], m + nq, by rw [hm, World.drewN_drewN]⟩
/-- A bit of a device's links. -/
def lkB (m : Int) (i : Nat) : Bool := bits BinOp.and .u16 (m / 2 ^ i) 1 == 1
set_option maxRecDepth 100000 in
/-- LinkUp -/
theorem linkUp_any (w : World) (b : Nat) (N : Nat → Dv) (vr va : Nat → Value) (h : NA w b N vr va) (d e : Nat) (hd : d < 16) (he : e < 16) :
    Calls Try.prog 28 #[.pointer (some ⟨b, 0, none⟩), .int .i64 d, .int .i64 e] w fun r w' => r = .returned (.bool (lkB (N d).lk e)) ∧ w' = w := by
  have c3 := h.l d hd
  clear h
  have hdi : (d : Int) < 16 := by omega
  have hei : (e : Int) < 16 := by omega
  have hw : IntKind.u64.wrap (e : Int) = (e : Int) := by rw [IntKind.wrap_u64]; omega
  obtain ⟨m, hm⟩ : ∃ m, (N d).lk = m := ⟨_, rfl⟩
  rw [hm] at c3 ⊢
  clear hm
  go_enter Try.func28, Try.ntmps28
  go_wp2
  go_ret
  exact ⟨rfl, rfl⟩
/-- setBit, plain. -/
def stB (m : Int) (i : Nat) (on : Bool) : Int := if on = true then bits BinOp.or .u16 m (2 ^ i) else bits BinOp.andNot .u16 m (2 ^ i)
set_option maxRecDepth 100000 in
theorem setBit_any (w : World) (m : Int) (e : Nat) (he : e < 16) (on : Bool) :
    Calls Try.prog 77 #[.int .u16 m, .int .i64 e, .bool on] w fun r w' => r = .returned (.int .u16 (stB m e on)) ∧ w' = w := by
  have hei : (e : Int) < 16 := by omega
  have hw : IntKind.u64.wrap (e : Int) = (e : Int) := by rw [IntKind.wrap_u64]; omega
  have hp : (2 : Int) ^ e ≤ 32768 := (by decide : ∀ e, e < 16 → (2 : Int) ^ e ≤ 32768) e he
  have hp0 : (0 : Int) < 2 ^ e := Int.pow_pos (by decide)
  have hw2 : IntKind.u16.wrap ((2 : Int) ^ e) = 2 ^ e := by rw [IntKind.wrap_u16]; omega
  have HON : Hid (stB m e on = if on = true then bits BinOp.or .u16 m (2 ^ e) else bits BinOp.andNot .u16 m (2 ^ e)) := rfl
  rw [HON.out]
  cases on
  · go_enter Try.func77, Try.ntmps77
    go_wp2
    go_ret
    exact ⟨rfl, rfl⟩
  · go_enter Try.func77, Try.ntmps77
    go_wp2
    go_ret
    exact ⟨rfl, rfl⟩
end Go.Proofs.Qxb6500778a
