import Derived.Test.Qxb6500784aOrder
import Derived.Test.Qxb6500784aMalf2
namespace Go.Proofs.Qxb6500784a
open Go.RowKit

/-- A list of places in memory. -/
def PermAt (w : World) (ao : Option Addr) (cp : Nat) (V : List Nat) : Prop := V.length ≤ cp ∧ ∀ (j : Nat) x, V[j]? = some x → ∃ b off, ao = some ⟨b, off, none⟩ ∧ w.cell? ⟨b, off + j, none⟩ = some (.int .i64 (x : Nat))
theorem PermAt.below {w w' : World} {ao : Option Addr} {cp : Nat} {V : List Nat} (h : PermAt w ao cp V) (hb : Below w.heap.size w w') : PermAt w' ao cp V :=
  ⟨h.1, fun j x hx => by obtain ⟨b, off, e, c⟩ := h.2 j x hx; exact ⟨b, off, e, cellKeep hb c⟩⟩
theorem owns_perm {w : World} {B : Nat} {v : Value} {V : List Nat} (h : w.ownsRow B 3 1 v V.length (vals V)) : ∃ ao cp, v = .slice ao V.length cp ∧ PermAt w ao cp V := by
  have hc := @World.ownsRow.cells _ _ _ _ _ _ _ h
  obtain ⟨h1, ⟨a, b⟩ | ⟨g, cap, cur, a, b, c, d, _⟩⟩ := h
  · exact ⟨none, 0, by rw [a, b], by omega, fun j x hx => by rw [List.getElem?_eq_none (by omega)] at hx; cases hx⟩
  · refine ⟨some ⟨g, 0, none⟩, cap, a, d, fun j x hx => ⟨g, 0, rfl, ?_⟩⟩
    have := hc (g := g) (by rw [a]; rfl) j (.int .i64 (x : Nat)) (by rw [vals, List.getElem?_map, hx]; rfl)
    rwa [Addr.add_mid] at this
/-- Among the first t of V one bears the ID x. -/
def Bef (L : Nat → Leg) (V : List Nat) (t : Nat) (x : Int) : Prop := ∃ (t' y : Nat), t' < t ∧ V[t']? = some y ∧ (L y).id = x
def FitsP (L : Nat → Leg) (V : List Nat) : Prop := ∀ k x, V[k]? = some x → ∀ q, q < (L x).nn → Bef L V k ((L x).nd q)
open Classical in
noncomputable def befB (L : Nat → Leg) (V : List Nat) (t : Nat) (x : Int) : Bool := decide (Bef L V t x)
open Classical in
noncomputable def fitsB (L : Nat → Leg) (V : List Nat) : Bool := decide (FitsP L V)
open Classical in
theorem befB_zero (L : Nat → Leg) (V : List Nat) (x : Int) : befB L V 0 x = false := decide_eq_false (by rintro ⟨t, y, h, _⟩; omega)
open Classical in
theorem befB_hit {L : Nat → Leg} {V : List Nat} {t y : Nat} {x : Int} (h : V[t]? = some y) (e : (L y).id = x) : befB L V (t + 1) x = true := decide_eq_true ⟨t, y, by omega, h, e⟩
theorem befB_miss {L : Nat → Leg} {V : List Nat} {t y : Nat} {x : Int} (h : V[t]? = some y) (e : ¬ (L y).id = x) : befB L V (t + 1) x = befB L V t x := by
  unfold befB
  have : Bef L V (t + 1) x ↔ Bef L V t x := by
    constructor
    · rintro ⟨t', y', h1, h2, h3⟩
      rcases Nat.lt_or_ge t' t with q | q
      · exact ⟨t', y', q, h2, h3⟩
      · have : t' = t := by omega
        subst this; rw [h] at h2; injection h2 with h2; subst h2; exact absurd h3 e
    · rintro ⟨t', y', h1, h2, h3⟩
      exact ⟨t', y', by omega, h2, h3⟩
  rw [show Bef L V (t + 1) x = Bef L V t x from propext this]
open Classical in
theorem fitsB_true {L : Nat → Leg} {V : List Nat} (h : FitsP L V) : fitsB L V = true := decide_eq_true h
open Classical in
theorem fitsB_false {L : Nat → Leg} {V : List Nat} (h : ¬ FitsP L V) : fitsB L V = false := decide_eq_false h
open Classical in
theorem befB_of {L : Nat → Leg} {V : List Nat} {t : Nat} {x : Int} (h : befB L V t x = true) : Bef L V t x := of_decide_eq_true h
open Classical in
theorem befB_not {L : Nat → Leg} {V : List Nat} {t : Nat} {x : Int} (h : befB L V t x = false) : ¬ Bef L V t x := of_decide_eq_false h
attribute [-simp] Try.isAgg95 Try.sizeOf95 Try.typeInfo95
set_option maxRecDepth 100000 in
set_option maxHeartbeats 4000000 in
theorem fits_any (w : World) (a : Option Addr) (n cap : Nat) (L : Nat → Leg) (ao : Option Addr) (cp : Nat) (V : List Nat) (hl : V.length ≤ 9) (hV : ∀ x, x ∈ V → x < n) (hL : LegsAt w a n L) (hP : PermAt w ao cp V) :
    Calls Try.prog 18 #[.agg #[.slice a n cap], .slice ao V.length cp] w fun e w' => e = .returned (.bool (fitsB L V)) ∧ Below w.heap.size w w' := by
  obtain ⟨W, hW⟩ : ∃ W, W = (w.alloc (.cells #[.slice a n cap] 27)) := ⟨_, rfl⟩
  have ca : W.cell? ⟨w.heap.size, 0, none⟩ = some (.slice a n cap) := by rw [hW]; simp [go_sem]
  have HB : Hid (Below w.heap.size w W) := by rw [hW]; exact (Below.refl _ _).alloc (Nat.le_refl _) _
  have HL := hide (hL.below HB.out)
  have HP := hide (hP.below HB.out)
  have HV := hide hV
  have hcp := hP.1
  have s95 := Try.sizeOf95
  clear hL hP hV
  go_enter Try.func18, Try.ntmps18
  go_upto_region 1 with fail
  rw [← hW]
  clear hW
  go_wp2
  go_loop [14] (fun s => ∃ k : Nat, k ≤ V.length ∧ s = .int .i64 k ∧ ∀ k' x, k' < k → V[k']? = some x → ∀ q, q < (L x).nn → Bef L V k' ((L x).nd q)) (fun s => V.length - (intOf s).toNat)
  case atStart => exact ⟨0, Nat.zero_le _, rfl, fun k x h => by omega⟩
  case round =>
    obtain ⟨k, hk, rfl, hno⟩ := hrel
    have HN := hide hno
    clear hno
    by_cases hlt : k < V.length
    · obtain ⟨x, hx⟩ : ∃ x, V[k]? = some x := ⟨_, List.getElem?_eq_getElem hlt⟩
      have hxn := HV.out x (List.mem_of_getElem? hx)
      obtain ⟨b2, off2, rfl, cx⟩ := HP.out.2 k x hx
      obtain ⟨b, off, rfl, hc, hleg⟩ := HL.out x hxn
      have c85 := hc 85 (by omega)
      rw [hleg.v85] at c85
      have hnn := hleg.nn
      have HND := hide hleg.nd
      have HX := hide hx
      clear hc hleg hx
      generalize (L x).na = na at *
      go_wp2
      go_loop [26] (fun s => ∃ q : Nat, q ≤ (L x).nn ∧ s = .int .i64 q ∧ ∀ q', q' < q → Bef L V k ((L x).nd q')) (fun s => (L x).nn - (intOf s).toNat)
      case atStart => exact ⟨0, Nat.zero_le _, rfl, fun q h => by omega⟩
      case round =>
        obtain ⟨q, hq, rfl, hno⟩ := hrel
        have HN2 := hide hno
        clear hno
        by_cases hlt2 : q < (L x).nn
        · obtain ⟨b', off', rfl, hcq, hr0, hr1⟩ := HND.out q hlt2
          clear hr0 hr1
          go_wp2
          go_loop [9, 34] (fun e s => ∃ t : Nat, t ≤ k ∧ s = .int .i64 t ∧ e = .bool (befB L V t ((L x).nd q))) (fun _ s => k - (intOf s).toNat)
          case atStart => exact ⟨0, Nat.zero_le _, rfl, by rw [befB_zero]⟩
          case round =>
            obtain ⟨t, ht, rfl, rfl⟩ := hrel
            by_cases hlt3 : t < k
            · obtain ⟨y, hy⟩ : ∃ y, V[t]? = some y := ⟨_, List.getElem?_eq_getElem (by omega)⟩
              have hyn := HV.out y (List.mem_of_getElem? hy)
              obtain ⟨_, _, ee, cy⟩ := HP.out.2 t y hy
              injection ee with ee
              injection ee with ee1 ee2
              subst ee1 ee2
              obtain ⟨_, _, ef, hcy, hlegy⟩ := HL.out y hyn
              injection ef with ef
              injection ef with ef1 ef2
              subst ef1 ef2
              have cy0 := hcy 0 (by omega)
              rw [hlegy.v0, Nat.add_zero] at cy0
              have HY := hide hy
              clear hcy hlegy hy
              by_cases he : (L y).id = (L x).nd q
              · have HT : Hid (befB L V (t + 1) ((L x).nd q) = true) := befB_hit HY.out he
                go_wp2
                go_round
                case rel => exact ⟨t + 1, by omega, by go_num, by rw [HT.out]⟩
                case measure => simp [intOf]; omega
              · have HT : Hid (befB L V (t + 1) ((L x).nd q) = befB L V t ((L x).nd q)) := befB_miss HY.out he
                go_wp2
                go_round
                case rel => exact ⟨t + 1, by omega, by go_num, by rw [HT.out]⟩
                case measure => simp [intOf]; omega
            · have htk : t = k := by omega
              cases hb : befB L V t ((L x).nd q)
              · have HC : Hid (fitsB L V = false) := fitsB_false fun hf => befB_not hb (by rw [htk]; exact hf k x HX.out q hlt2)
                clear htk hb
                go_wp2
                go_ret
                exact ⟨by rw [HC.out]; rfl, HB.out⟩
              · have HT : Hid (Bef L V k ((L x).nd q)) := by
                  have := befB_of hb
                  rw [htk] at this
                  exact this
                clear htk hb
                go_wp2
                go_round
                case rel => exact ⟨q + 1, by omega, by go_num, fun q' hq' => by rcases Nat.lt_or_ge q' q with h | h; exact HN2.out q' h; rw [show q' = q by omega]; exact HT.out⟩
                case measure => simp [intOf]; omega
        · go_wp2
          go_round
          case rel =>
            refine ⟨k + 1, by omega, by go_num, fun k' y hk' hy => ?_⟩
            rcases Nat.lt_or_ge k' k with h | h
            · exact HN.out k' y h hy
            · have e3 : k' = k := by omega
              subst e3
              rw [HX.out] at hy
              injection hy with hy
              subst hy
              exact fun q' hq' => HN2.out q' (by omega)
          case measure => simp [intOf]; omega
    · have HC : Hid (fitsB L V = true) := fitsB_true fun k' x hx q hq => HN.out k' x (by
        have := (List.getElem?_eq_some_iff.1 hx).1
        omega) hx q hq
      go_wp2
      go_ret
      exact ⟨by rw [HC.out]; rfl, HB.out⟩
end Go.Proofs.Qxb6500784a
