import Derived.Test.Qxb6500774aPl2
namespace Go.Proofs.Qxb6500774a
open Go.RowKit

instance (c : Int) : Decidable (okb c) := by unfold okb; infer_instance
def whole (A : Nat) (ks : List Nat) : List Int := sPROG ++ (bdT ks A 0 ++ sEP)
def AllOk (l : List Int) : Prop := ∀ c ∈ l, okb c
theorem AllOk.app {a b : List Int} (h : AllOk a) (k : AllOk b) : AllOk (a ++ b) := fun c hc => (List.mem_append.1 hc).elim (h c) (k c)
theorem ok_opn (k : Nat) : AllOk (opn k) := by
  rcases k with _ | _ | _ | k
  · show ∀ c ∈ [40], okb c; decide
  · show ∀ c ∈ [65, 91], okb c; decide
  · show ∀ c ∈ [78, 79, 84, 32], okb c; decide
  · show ∀ c ∈ [45], okb c; decide
theorem ok_cls (k : Nat) : AllOk (cls k) := by
  rcases k with _ | _ | k
  · show ∀ c ∈ [41], okb c; decide
  · show ∀ c ∈ [93], okb c; decide
  · intro c hc; cases hc
theorem ok_ex : ∀ ks, AllOk (exT ks)
  | [] => by show ∀ c ∈ [49], okb c; decide
  | k :: r => (ok_opn k).app ((ok_ex r).app (ok_cls k))
theorem ok_hd (i : Nat) : AllOk (hdT i) := by
  unfold hdT
  split
  · show ∀ c ∈ sIF, okb c; decide
  · show ∀ c ∈ sFOR, okb c; decide
theorem ok_end (i : Nat) : AllOk (endT i) := by
  unfold endT
  split
  · show ∀ c ∈ sEIF, okb c; decide
  · show ∀ c ∈ sEFOR, okb c; decide
theorem ok_bd (ks : List Nat) : ∀ m i, AllOk (bdT ks m i)
  | 0, _ => AllOk.app (by show ∀ c ∈ sASG, okb c; decide) ((ok_ex ks).app (by show ∀ c ∈ [59], okb c; decide))
  | m + 1, i => (ok_hd i).app ((ok_bd ks m (i + 1)).app (ok_end i))
theorem sane_whole (A : Nat) (ks : List Nat) : Sane (whole A ks) := fun i c h => by
  have : AllOk (whole A ks) := AllOk.app (by show ∀ c ∈ sPROG, okb c; decide) ((ok_bd ks A 0).app (by show ∀ c ∈ sEP, okb c; decide))
  exact this c (List.mem_of_getElem? h)
theorem isM_S (x : List Int) (o : Nat) (y : ByteArray) (h : ((strOfNums x).data.toList == y.data.toList) = true) : isM (tkS x o) y = true := by
  unfold isM tkS
  simp only [ByteArray.toList_eq, h]
  rfl
theorem its_ok : ∀ (ks : List Nat) (o : Nat), ∀ i ∈ itsAt o ks, i.Ok
  | [], _, _, h => by cases h
  | 0 :: r, o, i, h => by
    rcases List.mem_cons.1 h with rfl | h
    · exact ⟨isM_S _ _ _ (by decide), isM_S _ _ _ (by decide), rfl⟩
    · exact its_ok r _ i h
  | 1 :: r, o, i, h => by
    rcases List.mem_cons.1 h with rfl | h
    · exact ⟨rfl, isM_S _ _ _ (by decide), isM_S _ _ _ (by decide), rfl⟩
    · exact its_ok r _ i h
  | 2 :: r, o, i, h => by
    rcases List.mem_cons.1 h with rfl | h
    · exact ⟨.inl (isM_S _ _ _ (by decide)), rfl⟩
    · exact its_ok r _ i h
  | (k + 3) :: r, o, i, h => by
    rcases List.mem_cons.1 h with rfl | h
    · exact ⟨.inr (isM_S _ _ _ (by decide)), rfl⟩
    · exact its_ok r _ i h
theorem sm_ok (ks : List Nat) : ∀ m i o, (smAt ks m i o).Ok
  | 0, _, o => ⟨rfl, isM_S _ _ _ (by decide), its_ok ks _, .inr rfl⟩
  | m + 1, i, o => by
    by_cases hi : i % 2 = 0
    · rw [smAt, if_pos hi]
      exact ⟨isM_S _ _ _ (by decide), rfl, rfl, isM_S _ _ _ (by decide), sm_ok ks m _ _, isM_S _ _ _ (by decide), isM_S _ _ _ (by decide)⟩
    · rw [smAt, if_neg hi]
      exact ⟨isM_S _ _ _ (by decide), rfl, rfl, isM_S _ _ _ (by decide), rfl, isM_S _ _ _ (by decide), rfl, isM_S _ _ _ (by decide), sm_ok ks m _ _, isM_S _ _ _ (by decide), isM_S _ _ _ (by decide)⟩
/-- The places of the openers. -/
def ofs : Nat → Nat
  | 1 => 1
  | _ => 0
def opE : Nat → List Nat → List Nat
  | _, [] => []
  | o, k :: r => (o + ofs k) :: opE (o + (opn k).length) r
def opS (ks : List Nat) : Nat → Nat → Nat → List Nat
  | 0, _, o => opE (o + 5) ks
  | m + 1, i, o => o :: opS ks m (i + 1) (o + (hdT i).length)
def cl1 (o : Option Nat) : Option Int := o.map fun x => (x : Int) + 1
theorem deep_ex : ∀ (ks : List Nat) (o : Nat) (d : Int), 0 ≤ d → d ≤ 64 → deepAt (itsAt o ks) d = cl1 ((opE o ks)[(64 - d).toNat]?)
  | [], _, _, _, _ => rfl
  | k :: r, o, d, h0, h1 => by
    have key : ∀ it o', it.op.c = (((o + ofs k : Nat) : Int)) + 1 → itsAt o (k :: r) = it :: itsAt o' r → o' = o + (opn k).length → deepAt (itsAt o (k :: r)) d = cl1 ((opE o (k :: r))[(64 - d).toNat]?) := fun it o' hc hi ho => by
      rw [hi, deepAt, opE]
      by_cases h64 : 64 ≤ d
      · rw [if_pos h64, show (64 - d).toNat = 0 by omega]
        simp [cl1, hc]
      · rw [if_neg h64, deep_ex r o' (d + 1) (by omega) (by omega), show (64 - d).toNat = (64 - (d + 1)).toNat + 1 by omega, ho]
        rfl
    rcases k with _ | _ | _ | k
    · exact key _ _ rfl rfl rfl
    · exact key _ _ rfl rfl rfl
    · exact key _ _ rfl rfl rfl
    · exact key _ _ rfl rfl rfl
theorem deep_sm (ks : List Nat) : ∀ (m i o : Nat) (d : Int), 0 ≤ d → d ≤ 64 → deepS (smAt ks m i o) d = cl1 ((opS ks m i o)[(64 - d).toNat]?)
  | 0, _, o, d, h0, h1 => deep_ex ks (o + 5) d h0 h1
  | m + 1, i, o, d, h0, h1 => by
    have key : ∀ o', o' = o + (hdT i).length → (if 64 ≤ d then some ((o : Int) + 1) else deepS (smAt ks m (i + 1) o') (d + 1)) = cl1 ((opS ks (m + 1) i o)[(64 - d).toNat]?) := fun o' ho => by
      rw [opS]
      by_cases h64 : 64 ≤ d
      · rw [if_pos h64, show (64 - d).toNat = 0 by omega]
        rfl
      · rw [if_neg h64, deep_sm ks m (i + 1) o' (d + 1) (by omega) (by omega), show (64 - d).toNat = (64 - (d + 1)).toNat + 1 by omega, ho]
        rfl
    by_cases hi : i % 2 = 0
    · rw [smAt, if_pos hi]
      exact key (o + 10) (by rw [hdT, if_pos hi]; rfl)
    · rw [smAt, if_neg hi]
      exact key (o + 19) (by rw [hdT, if_neg hi]; rfl)
/-- The whole text's tokens. -/
theorem str_whole (A : Nat) (ks : List Nat) (hl : (whole A ks).length ≤ 1048576) : ∃ pr nm sc ep n1 n2 : Tk, Str (whole A ks) 0 (pr :: nm :: (smT (smAt ks A 0 10) ++ sc :: ep :: n1 :: [n2])) ∧ isM pr ⟨#[80, 82, 79, 71, 82, 65, 77]⟩ = true ∧ nm.k = 2 ∧ isM sc ⟨#[59]⟩ = true ∧ isM ep ⟨#[69, 78, 68, 95, 80, 82, 79, 71, 82, 65, 77]⟩ = true ∧ n1.k = 0 := by
  have hs := sane_whole A ks
  have hl2 : (whole A ks).length ≤ 1099511627776 := by omega
  obtain ⟨s, hse⟩ : ∃ s, whole A ks = s := ⟨_, rfl⟩
  have h0 : s.drop 0 = List.replicate 0 32 ++ ([80, 82, 79, 71, 82, 65, 77] ++ (List.replicate 1 32 ++ ([80] ++ (List.replicate 1 32 ++ (bdT ks A 0 ++ sEP))))) := by rw [← hse]; simp [whole, sPROG]
  have hlen : s.length = 10 + (bdT ks A 0).length + 12 := by rw [← hse]; simp [whole, sPROG, sEP]; omega
  rw [hse] at hs hl2 hl ⊢
  have r0 := rd_word hs hl2 (b := 0) (c := 80) (x := [82, 79, 71, 82, 65, 77]) h0 (by decide) (by decide) (sep_cons _ (by decide)) (fun e => by cases e) (by decide) 5 (by decide)
  have r1 := rd_word hs hl2 (c := 80) (x := []) r0.2.2 (by decide) (by decide) (sep_cons _ (by decide)) (fun _ => by decide) (by decide) 2 (by decide)
  have ih := lex_bd hs hl2 ks A 0 _ 1 sEP r1.2.2
  have r2 := rd_word hs hl2 (b := 1) (c := 69) (x := [78, 68, 95, 80, 82, 79, 71, 82, 65, 77]) (rest := []) (by rw [ih.rest]; simp [sEP]) (by decide) (by decide) (fun c r e => by cases e) (fun e => by cases e) (by decide) 5 (by decide)
  have r3 := rd_end hs hl2
  simp only [List.length_cons, List.length_nil] at r1 ih r2
  have e1 : 0 + 0 + (0 + 1 + 1 + 1 + 1 + 1 + 1 + 1) + 1 + (0 + 1) + 1 + (bdT ks A 0).length + 1 + (0 + 1 + 1 + 1 + 1 + 1 + 1 + 1 + 1 + 1 + 1 + 1) = s.length := by omega
  rw [e1] at r2
  have L := r0.lex.app (r1.lex.app (ih.app (r2.lex.app (r3.lex.app r3.lex))))
  have S := L.str (K := []) trivial
  refine ⟨tkS [80, 82, 79, 71, 82, 65, 77] 0, tkN [80] 8, tkS [59] (10 + (bdT ks A 0).length - 1), tkS [69, 78, 68, 95, 80, 82, 79, 71, 82, 65, 77] (10 + (bdT ks A 0).length + 1), tkE s.length, tkE s.length, ?_, isM_S _ _ _ (by decide), rfl, isM_S _ _ _ (by decide), isM_S _ _ _ (by decide), rfl⟩
  simpa [tkS, tkN] using S
end Go.Proofs.Qxb6500774a
