import Derived.Test.Qxb6500774aPl3
import Derived.Test.Qxb6500774aAd1
namespace Go.Proofs.Qxb6500774a
open Go.RowKit

/-! ### The text as the law's loops build it -/
def hds : Nat → List Int
  | 0 => []
  | k + 1 => hds k ++ hdT k
def opH : Nat → List Nat
  | 0 => []
  | k + 1 => opH k ++ [10 + (hds k).length]
def edsR (A : Nat) : Nat → List Int
  | 0 => []
  | m + 1 => edsR A m ++ endT (A - 1 - m)
theorem opH_len : ∀ k, (opH k).length = k
  | 0 => rfl
  | k + 1 => by rw [opH, List.length_append, opH_len k]; rfl
theorem ex_split : ∀ ks, exT ks = ks.flatMap opn ++ ([49] ++ ks.reverse.flatMap cls)
  | [] => rfl
  | k :: r => by simp [exT, ex_split r]
theorem bd_split (ks : List Nat) : ∀ m i, hds i ++ bdT ks m i = hds (i + m) ++ (sASG ++ (exT ks ++ ([59] ++ edsR (i + m) m)))
  | 0, i => by simp [bdT, edsR]
  | m + 1, i => by
    have ih := bd_split ks m (i + 1)
    rw [bdT, ← List.append_assoc, show hds i ++ hdT i = hds (i + 1) from rfl, ← List.append_assoc, ih, edsR, show i + (m + 1) - 1 - m = i by omega, show i + (m + 1) = i + 1 + m by omega]
    simp
theorem whole_split (A : Nat) (ks : List Nat) : whole A ks = sPROG ++ hds A ++ sASG ++ ks.flatMap opn ++ [49] ++ ks.reverse.flatMap cls ++ [59] ++ edsR A A ++ sEP := by
  have h := bd_split ks A 0
  rw [show hds 0 = [] from rfl, List.nil_append, Nat.zero_add] at h
  rw [whole, h, ex_split]
  simp
theorem op_split (ks : List Nat) : ∀ m i, opH i ++ opS ks m i (10 + (hds i).length) = opH (i + m) ++ opE (10 + (hds (i + m)).length + 5) ks
  | 0, i => rfl
  | m + 1, i => by
    have ih := op_split ks m (i + 1)
    rw [opS, show i + (m + 1) = i + 1 + m by omega, ← ih, opH, hds, List.length_append, Nat.add_assoc]
    simp
theorem opE_snoc : ∀ (L : List Nat) (k o : Nat), opE o (L ++ [k]) = opE o L ++ [o + (L.flatMap opn).length + ofs k]
  | [], k, o => rfl
  | a :: L, k, o => by
    rw [List.cons_append, opE, opE, opE_snoc L k, List.flatMap_cons, List.length_append, List.cons_append]
    simp [Nat.add_assoc]
theorem opE_len : ∀ (L : List Nat) (o : Nat), (opE o L).length = L.length
  | [], _ => rfl
  | _ :: L, o => by rw [opE, List.length_cons, opE_len L, List.length_cons]
/-- The column of the opener that is one too many, or 0. -/
def td (P : List Nat) : Int := match (P[64]? : Option Nat) with
  | some x => (x : Int) + 1
  | none => 0
theorem td_snoc (P : List Nat) (x : Nat) : td (P ++ [x]) = if P.length = 64 then (x : Int) + 1 else td P := by
  unfold td
  by_cases h : P.length = 64
  · rw [if_pos h, List.getElem?_append_right (by omega), h]
    rfl
  · rw [if_neg h]
    by_cases h2 : 64 < P.length
    · rw [List.getElem?_append_left h2]
    · rw [List.getElem?_eq_none (l := P ++ [x]) (by rw [List.length_append]; simp; omega), List.getElem?_eq_none (l := P) (by omega)]
theorem td_fault (P : List Nat) : (td P = 0 ∧ fo (cl1 (P[64]?)) = (0, 0, 0)) ∨ (0 < td P ∧ fo (cl1 (P[64]?)) = (6, 1, td P)) := by
  unfold td
  cases h : P[64]? with
  | none => left; exact ⟨rfl, rfl⟩
  | some x => right; exact ⟨by show (0 : Int) < (x : Int) + 1; omega, rfl⟩
theorem td_bound (P : List Nat) (N : Nat) (h : ∀ x ∈ P, x ≤ N) : 0 ≤ td P ∧ td P ≤ N + 1 := by
  unfold td
  cases hx : P[64]? with
  | none => simp; omega
  | some x => have := h x (List.mem_of_getElem? hx); simp; omega
theorem hdT_len (i : Nat) : (hdT i).length ≤ 19 := by unfold hdT; split <;> decide
theorem endT_len (i : Nat) : (endT i).length ≤ 9 := by unfold endT; split <;> decide
theorem hds_len : ∀ k, (hds k).length ≤ 19 * k
  | 0 => Nat.le_refl _
  | k + 1 => by rw [hds, List.length_append]; have := hds_len k; have := hdT_len k; omega
theorem eds_len (A : Nat) : ∀ m, (edsR A m).length ≤ 9 * m
  | 0 => Nat.le_refl _
  | m + 1 => by rw [edsR, List.length_append]; have := eds_len A m; have := endT_len (A - 1 - m); omega
theorem opn_len (k : Nat) : (opn k).length ≤ 4 := by rcases k with _ | _ | _ | k <;> simp [opn]
theorem cls_len (k : Nat) : (cls k).length ≤ 1 := by rcases k with _ | _ | k <;> simp [cls]
theorem fop_len : ∀ L : List Nat, (L.flatMap opn).length ≤ 4 * L.length
  | [] => Nat.le_refl _
  | k :: L => by rw [List.flatMap_cons, List.length_append, List.length_cons]; have := fop_len L; have := opn_len k; omega
theorem fcl_len : ∀ L : List Nat, (L.flatMap cls).length ≤ L.length
  | [] => Nat.le_refl _
  | k :: L => by rw [List.flatMap_cons, List.length_append, List.length_cons]; have := fcl_len L; have := cls_len k; omega
theorem whole_len (A : Nat) (ks : List Nat) (hA : A ≤ 256) (hk : ks.length ≤ 65536) : (whole A ks).length ≤ 1048576 := by
  rw [whole_split]
  have h1 := hds_len A
  have h2 := fop_len ks
  have h3 := fcl_len ks.reverse
  rw [List.length_reverse] at h3
  have h4 := eds_len A A
  simp only [List.length_append, sPROG, sASG, sEP, List.length_cons, List.length_nil]
  omega
/-- ParseProgram on the law's text. -/
theorem parse_whole (w : World) (a : Option Addr) (cp A : Nat) (ks : List Nat) (hA : A ≤ 256) (hk : ks.length ≤ 65536) (hsrc : SrcAt w a (whole A ks)) (ha : ∀ g off, a = some ⟨g, off, none⟩ → g < w.heap.size) :
    Calls Try.prog 12 #[.slice a (whole A ks).length cp] w fun e w' => (∃ (x : ByteArray) (sl : Sl) (f : Int × Int × Int), f = fo (cl1 ((opH A ++ opE (10 + (hds A).length + 5) ks)[64]?)) ∧ e = .returned (.tuple #[.agg #[.string x, .slice none 0 0, .slice sl.a sl.l sl.c], .agg #[.int .i64 f.1, .int .i64 f.2.1, .int .i64 f.2.2]])) ∧ Ex (fun _ => False) w w' := by
  have hl := whole_len A ks hA hk
  obtain ⟨pr, nm, sc, ep, n1, n2, hst, h1, h2, h3, h4, h5⟩ := str_whole A ks hl
  refine (parse_ok w a cp (whole A ks) hsrc ha hl pr nm sc ep n1 n2 (smAt ks A 0 10) hst h1 h2 (sm_ok ks A 0 10) h3 h4 h5).mono ?_
  rintro e w' ⟨⟨x, sl, rfl⟩, hex⟩
  refine ⟨⟨x, sl, _, rfl, ?_⟩, hex⟩
  have hd := deep_sm ks A 0 10 0 (Int.le_refl _) (by decide)
  have ho := op_split ks A 0
  rw [show opH 0 = [] from rfl, List.nil_append, Nat.zero_add, show 10 + (hds 0).length = 10 from rfl] at ho
  rw [hd, ho]
  rfl
theorem own_src {B : Nat} {w : World} {a : Option Addr} {n c : Nat} {X : List Int} (h : Own B w (.slice a n c) X) : SrcAt w a X ∧ ∀ g off, a = some ⟨g, off, none⟩ → g < w.heap.size := by
  refine ⟨fun i x hx => ?_, fun g off e => ?_⟩
  · have hi := (List.getElem?_eq_some_iff.1 hx).1
    obtain ⟨g, cap, hv, _, _⟩ := World.ownsRow.form h (by omega)
    injection hv with ha hn _
    subst ha
    subst hn
    refine ⟨g, 0, rfl, ?_⟩
    have hc : w.cell? ⟨g, i, none⟩ = (u8s X)[i]? := World.ownsRow.cellAt h i (by omega)
    rw [Nat.zero_add, hc, u8s, List.getElem?_map, hx]
    rfl
  · exact (World.ownsRow.lt h g (by rw [e]; rfl)).2
end Go.Proofs.Qxb6500774a
