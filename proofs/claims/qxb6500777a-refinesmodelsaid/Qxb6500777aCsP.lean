import Derived.Test.Qxb6500777aTsQ
import Derived.Test.Qxb6500777aLkP
namespace Go.Proofs.Qxb6500777a

/-! ### Plain of CoastRule -/
theorem new_src {C : List Ctc} {T3 T' : Tbl} (h3 : TInv T3) (r : AdmAll C 0 T3 T') : ∀ k, k < 64 → (T'.sl k).used = true → T3.next ≤ (T'.sl k).tr.num → ∃ S c, c ∈ C ∧ T'.sl k = newS S c := by
  have := AllU.all (Q := fun s => s.tr.num < T3.next ∨ ∃ S c, c ∈ C ∧ s = newS S c) (fun S c hc => .inr ⟨S, c, hc, rfl⟩) r (fun k hk hu => .inl (h3.num k hk hu).2)
  intro k hk hu hn
  rcases this k hk hu with z | z
  · omega
  · exact z
theorem credit_look (s : Slt) (g : Int) : (creditP s g).tr = { s.tr with st := (creditP s g).tr.st } := by
  unfold creditP
  split
  · rfl
  · split
    · rfl
    · split <;> rfl
/-- What a track shows after a tick. -/
theorem coast_ok2 {best : Nat → Int} {W : Nat → Tgt} {X Y : Nat → Int} {T T3 T' : Tbl} (hb : ∀ t, 0 ≤ best t) (h : TickP best W X Y T T3 T') {k : Nat} (hk : k < 64) (hu : (T'.sl k).used = true) :
    (0 < best (T'.sl k).tg.toNat ∧ (T'.sl k).tr = { lookP trk0 (W (T'.sl k).tg.toNat) (best (T'.sl k).tg.toNat) with num := (T'.sl k).tr.num, st := (T'.sl k).tr.st }) ∨
    (best (T'.sl k).tg.toNat = 0 ∧ (T.sl k).used = true ∧ (T.sl k).tr.num = (T'.sl k).tr.num ∧ (T'.sl k).tr = { (T.sl k).tr with x := mapP ((T.sl k).tr.x + (T.sl k).tr.sp * X (T.sl k).tr.co.toNat / 1073741824), y := mapP ((T.sl k).tr.y + (T.sl k).tr.sp * Y (T.sl k).tr.co.toNat / 1073741824), ag := (T.sl k).tr.ag + 1 }) := by
  by_cases hn : (T'.sl k).tr.num < T3.next
  · obtain ⟨u3, e3⟩ := h.ev.old k hk hu hn
    obtain ⟨uk, j, hj, uj, aj, e⟩ := h.src k hk u3
    rw [← e3, e]
    rw [alike_iff] at aj
    have htg : (numd (obsS best W X Y (T.sl j)) (T.sl k).tr.num).tg = (T.sl j).tg := (obs_same best W X Y (T.sl j)).2.1
    rw [htg]
    by_cases hp : 0 < best (T.sl j).tg.toNat
    · left
      refine ⟨hp, ?_⟩
      have ho : obsS best W X Y (T.sl j) = creditP { T.sl j with tr := { lookP (T.sl j).tr (W (T.sl j).tg.toNat) (best (T.sl j).tg.toNat) with ag := 0 } } (best (T.sl j).tg.toNat) := by
        unfold obsS
        rw [if_pos uj, if_pos hp]
        rfl
      rw [ho]
      unfold numd
      dsimp only
      rw [credit_look]
      rfl
    · right
      have ho : obsS best W X Y (T.sl j) = coastP X Y (T.sl j) := by
        unfold obsS
        rw [if_pos uj, if_neg hp]
      have := hb (T.sl j).tg.toNat
      refine ⟨by omega, uk, rfl, ?_⟩
      rw [ho]
      obtain ⟨a1, a2, a3, a4, a5, a6, a7⟩ := aj
      unfold numd coastP
      dsimp only
      rw [← a1, ← a2, ← a3, ← a4, ← a5, ← a6]
  · left
    obtain ⟨S, c, hc, e⟩ := new_src h.inv3 h.adm k hk hu (by omega)
    obtain ⟨t, ht, rfl, hbt, _⟩ := fr_mem 112 c hc
    rw [e]
    have htg : (newS S (newC best W t)).tg = t := (credit_same _ _).2.1
    rw [htg, Int.toNat_natCast]
    have := hb t
    refine ⟨by omega, ?_⟩
    unfold newS newC
    dsimp only
    rw [credit_look]
theorem sumN_le {f g : Nat → Int} : ∀ n, (∀ k, k < n → f k ≤ g k) → sumN f n ≤ sumN g n
  | 0, _ => Int.le_refl _
  | n + 1, h => by
    have := sumN_le n (fun k hk => h k (by omega))
    have := h n (by omega)
    rw [sumN, sumN]; omega
/-- How many come in, where one goes. -/
structure HdI (T3 T : Tbl) (r : Int) : Prop where
  hd : T.held ≤ T3.held + (T.next - T3.next)
  ms : (∃ j, j < 64 ∧ (T3.sl j).used = true ∧ NoN T (T3.sl j).tr.num) → 64 < T3.held + (T.next - T3.next) + r
theorem held_ok {C : List Ctc} (hC : CsOk C) {T3 T' : Tbl} (had : AdI C 0 T3) (r : AdmAll C 0 T3 T') : HdI T3 T' 0 := by
  have key : ∀ (T : Tbl) i c, (T.sl i).used = false → T3.next ≤ T.next → (∃ j, j < 64 ∧ (T3.sl j).used = true ∧ NoN (admitP T i c) (T3.sl j).tr.num) → ∃ j, j < 64 ∧ (T3.sl j).used = true ∧ NoN T (T3.sl j).tr.num := by
    rintro T i c hu _ ⟨j, hj, uj, hn⟩
    refine ⟨j, hj, uj, fun k hk uk e => ?_⟩
    have z : k ≠ i := fun z => by subst z; rw [hu] at uk; cases uk
    exact hn k hk (by rw [show (admitP T i c).sl k = T.sl k from upd_ne _ _ z]; exact uk) (by rw [show (admitP T i c).sl k = T.sl k from upd_ne _ _ z]; exact e)
  obtain ⟨j, _, h, _⟩ := adm_ind (C := C) (fun _ T => HdI T3 T 0 ∧ T3.next ≤ T.next) (fun _ _ _ _ _ _ h => h) (fun i e T T1 hi he hb hr ad hp => by
    obtain ⟨p1, ad1, hg⟩ := room_ind (C := C) (i := i) (by omega) (fun T => HdI T3 T ((e - i : Nat) : Int) ∧ T3.next ≤ T.next) (fun T v ad' hv hlt h => by
      have hx := (ad'.inv.evict hv).2
      have h1 := h.1.hd
      have h2 := h.2
      refine ⟨⟨by rw [evict_next]; omega, fun _ => by rw [evict_next]; omega⟩, by rw [evict_next]; exact h2⟩) hr ad ⟨⟨hp.1.hd, fun z => by have := hp.1.ms z; omega⟩, hp.2⟩
    obtain ⟨p2, ad2, _⟩ := admL_ind hC ad1 (fun k T => HdI T3 T ((e - k : Nat) : Int) ∧ T3.next ≤ T.next ∨ e < k) (.inl p1) (fun k T c hik hc _ _ hu hi' _ h => by
      rcases h with h | h
      · by_cases hke : k < e
        · left
          refine ⟨⟨by show T.held + 1 ≤ _ + (T.next + 1 - _); have := h.1.hd; omega, fun z => ?_⟩, by show T3.next ≤ T.next + 1; omega⟩
          have := h.1.ms (key T _ c hu h.2 z)
          show 64 < T3.held + (T.next + 1 - T3.next) + _
          omega
        · right; omega
      · right; omega) (e - i) (by have := he.lt; have := he.le; omega) hg
    have hee : i + (e - i) = e := by have := he.lt; omega
    rw [hee] at p2 ad2
    refine ⟨?_, ad2⟩
    rcases p2 with p2 | p2
    · exact ⟨⟨p2.1.hd, fun z => by have := p2.1.ms z; omega⟩, p2.2⟩
    · omega) r had ⟨⟨by omega, fun ⟨j, hj, uj, hn⟩ => absurd rfl (hn j hj uj)⟩, Int.le_refl _⟩
  exact h.1
theorem vanish_ok {best : Nat → Int} {W : Nat → Tgt} {X Y : Nat → Int} {T T3 T' : Tbl} (hT : TInv T) (hb : ∀ t, 0 ≤ best t ∧ best t ≤ 3) (hW : ∀ t, t < 112 → TgtOk (W t)) (hn : T.next + 112 ≤ 1000000000) (h : TickP best W X Y T T3 T') {g : Trk} (hg : GoneB T T' g) : 64 < T.held + (T'.next - T.next) := by
  obtain ⟨⟨i, hi, ui, rfl⟩, hno, hag⟩ := hg
  have hd := held_ok (fr_ok hb hW) (fr_adI h.inv3 (by rw [h.nx]; exact hn)) h.adm
  have hle : T3.held ≤ T.held := by
    rw [h.inv3.cnt, hT.cnt]
    refine sumN_le 64 fun k hk => ?_
    cases hu : (T3.sl k).used
    · split
      · next z => cases z
      · split <;> omega
    · rw [(h.src k hk hu).1]
      simp
  rcases h.mid i hi ui with ⟨m1, m2, _⟩ | ⟨_, m2⟩
  · have := hd.ms ⟨i, hi, m1, by rw [m2]; exact hno⟩
    rw [h.nx] at this
    omega
  · omega
end Go.Proofs.Qxb6500777a
