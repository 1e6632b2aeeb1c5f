import Derived.Test.Qxb6500778aM3
namespace Go.Proofs.Qxb6500778a
open Go.RowKit

theorem str_of (s : ByteArray) : strOfNums (strL s) = s := by
  unfold strOfNums strL
  obtain ⟨d⟩ := s
  congr 1
  rw [List.map_map]
  have : ∀ l : List UInt8, l.map ((fun n : Int => UInt8.ofNat n.toNat) ∘ fun b : UInt8 => (b.toNat : Int)) = l := fun l => by
    induction l with
    | nil => rfl
    | cons b l ih =>
      rw [List.map_cons, ih]
      congr 1
      simp
  rw [this]
/-- fields, plain -/
def fldF : List Int → List Int → List (List Int)
  | cur, [] => if cur = [] then [] else [cur]
  | cur, c :: r => if c = 32 then (if cur = [] then fldF [] r else cur :: fldF [] r) else fldF (cur ++ [c]) r
def strV (t : List Int) : Value := .string (strOfNums t)
theorem fld_take {l : List Int} {f i : Nat} {c : Int} (h : l[i]? = some c) (hf : f ≤ i) : (l.drop f).take (i - f) ++ [c] = (l.drop f).take (i + 1 - f) := by
  rw [show i + 1 - f = (i - f) + 1 by omega, List.take_add_one, List.getElem?_drop, show f + (i - f) = i by omega, h]
  rfl
theorem fld_emp {l : List Int} {f i : Nat} (hi : i ≤ l.length) (hf : f ≤ i) : ((l.drop f).take (i - f) = []) ↔ f = i := by
  rw [← List.length_eq_zero_iff, List.length_take, List.length_drop]
  omega
set_option linter.unusedSimpArgs false in
set_option maxRecDepth 100000 in
set_option maxHeartbeats 8000000 in
/-- configm.fields -/
theorem fields_any (w : World) (s : ByteArray) (l : List Int) (hs : strL s = l) (hl : l.length ≤ 1000) :
    Calls Try.prog 46 #[.string s] w fun e w' => ∃ v, e = .returned v ∧ Ex (fun _ => False) w w' ∧ w'.ownsRow w.heap.size 9 1 v (fldF [] l).length ((fldF [] l).map strV) := by
  have HS := hide hs
  obtain ⟨n, hn⟩ : ∃ n, l.length = n := ⟨_, rfl⟩
  have hsz : s.size = n := by rw [strL_len, hs, hn]
  have HNL := hide hn
  rw [hn] at hl
  clear hs hn
  obtain ⟨i0, hi, hz0, hz1, hz2⟩ : ∃ i0, Try.prog.info? 9 = some i0 ∧ i0.zero = some (.string ⟨#[]⟩) ∧ i0.size = 1 ∧ i0.bytes = 16 := ⟨_, rfl, rfl, rfl, rfl⟩
  have HI := hide (And.intro hi (And.intro hz0 (And.intro hz1 hz2)))
  clear hi hz0 hz1 hz2
  obtain ⟨B, hB⟩ : ∃ B, w.heap.size = B := ⟨_, rfl⟩
  have HB := hide hB
  rw [hB]
  clear hB
  go_enter Try.func46, Try.ntmps46
  go_wp2_with fail
  go_loopw [3, 4, 5] (fun s3 s4 s5 wr => ∃ (i f : Nat) (va : Option Addr) (vc : Nat) (L : List (List Int)), s5 = .int .i64 i ∧ s4 = .int .i64 f ∧ s3 = .slice va L.length vc ∧ i ≤ n + 1 ∧ f ≤ i ∧ Hid (Ex (fun _ => False) w wr) ∧ Hid (wr.ownsRow B 9 1 (.slice va L.length vc) L.length (L.map strV)) ∧ Hid ((i ≤ n ∧ L ++ fldF ((l.drop f).take (i - f)) (l.drop i) = fldF [] l) ∨ (i = n + 1 ∧ L = fldF [] l)) ∧ L.length ≤ i) (fun _ _ s5 _ => n + 1 - (intOf s5).toNat)
  case atStart => exact ⟨0, 0, none, 0, [], rfl, rfl, rfl, by omega, by omega, Ex.refl _ _, World.ownsRow_nil _ _ _ _, .inl ⟨by omega, rfl⟩, Nat.le_refl _⟩
  case round =>
    obtain ⟨i, f, va, vc, L, rfl, rfl, rfl, hin, hfi, HE, HO, HL, hLi⟩ := hrel
    by_cases hlt : i ≤ n
    · have d1 : decide ((i : Int) ≤ (n : Int)) = true := decide_eq_true (by omega)
      have HQ : Hid (L ++ fldF ((l.drop f).take (i - f)) (l.drop i) = fldF [] l) := by
        rcases HL.out with z | z
        · exact z.2
        · omega
      have HXT : Hid (s.extract f i = strOfNums ((l.drop f).take (i - f))) := by
        show _ = _
        rw [← HS.out, ← strL_ext, str_of]
      by_cases hend : i = n
      · subst hend
        have hd0 : l.drop i = [] := List.drop_of_length_le (by rw [HNL.out]; exact Nat.le_refl _)
        rw [hd0, fldF] at HQ
        clear hd0
        by_cases hf : f = i
        · subst hf
          have df : decide ((f : Int) < (f : Int)) = false := decide_eq_false (by omega)
          have HR : Hid (L = fldF [] l) := by
            have := HQ.out
            rw [Nat.sub_self, List.take_zero, if_pos rfl, List.append_nil] at this
            exact this
          go_wp2
          go_roundw
          case rel => exact ⟨f + 1, f + 1, va, vc, L, by go_num, by go_num, rfl, by omega, by omega, HE, HO, .inr ⟨rfl, HR.out⟩, by omega⟩
          case measure => (simp [intOf]; try omega)
        · have hfi2 : f < i := by omega
          have df : decide ((f : Int) < (i : Int)) = true := decide_eq_true (by omega)
          have hiki : (f : Int) ≤ (i : Int) := by omega
          have HR : Hid (L ++ [(l.drop f).take (i - f)] = fldF [] l) := by
            have := HQ.out
            rw [if_neg (fun e => hf ((fld_emp (by rw [HNL.out]; exact Nat.le_refl _) hfi).1 e))] at this
            exact this
          generalize (l.drop f).take (i - f) = X at *
          go_wp2_with (at_builtin; refine wpList_append_own _ rfl _ _ 116 rfl B 9 i0 _ 1 16 Try.underlying116 HI.out.1 HI.out.2.1 HI.out.2.2.1 HI.out.2.2.2 rfl (by decide) (.slice va L.length vc) L.length (L.map strV) rfl (HO.out.alloc _) ⟨wr.heap.size, 0, none⟩ 1 1 [.string (s.extract f i)] rfl rfl (fun j u hj => new_cells wr [.string (s.extract f i)] 9 j u hj) (fun u hu => by simp at hu; subst hu; rfl) (by unfold maxLen; omega) (by omega) (by have := HE.out.size; have := HB.out; simp; omega) ?_; intro v6 w6 hown6 hgrow6 _)
          have hex6 := app_ex HE.out HO.out HB.out hgrow6
          have HE6 := hide hex6
          obtain ⟨va', vc', rfl⟩ := own_len hown6
          have HO6 : Hid (w6.ownsRow B 9 1 (.slice va' (L ++ [X]).length vc') (L ++ [X]).length ((L ++ [X]).map strV)) := by
            show World.ownsRow _ _ _ _ _ _ _
            rw [List.map_append, List.length_append]
            have := hown6
            rw [HXT.out] at this
            exact this
          have hLl : (L ++ [X]).length = L.length + 1 := by rw [List.length_append]; rfl
          generalize L ++ [X] = L' at *
          rw [← hLl]
          clear hex6 hown6 hgrow6
          go_wp2
          go_roundw
          case rel => exact ⟨i + 1, i + 1, va', vc', L', by go_num, by go_num, rfl, by omega, by omega, HE6, HO6, .inr ⟨rfl, HR.out⟩, by omega⟩
          case measure => (simp [intOf]; try omega)
      · have hine : i < n := by omega
        have hii : (i : Int) < (n : Int) := by omega
        have dne : ((i : Int) == (n : Int)) = false := by simp; omega
        obtain ⟨c, hc⟩ : ∃ c, l[i]? = some c := ⟨_, List.getElem?_eq_getElem (by rw [HNL.out]; exact hine)⟩
        have hx := str_get HS.out hc (by omega)
        rw [drop_cons hc, fldF] at HQ
        have HC := hide hc
        clear hc
        by_cases h32 : c = 32
        · subst h32
          by_cases hf : f = i
          · subst hf
            have df : decide ((f : Int) < (f : Int)) = false := decide_eq_false (by omega)
            have HR : Hid (L ++ fldF ((l.drop (f + 1)).take (f + 1 - (f + 1))) (l.drop (f + 1)) = fldF [] l) := by
              have := HQ.out
              rw [Nat.sub_self, List.take_zero, if_pos rfl, if_pos rfl] at this
              rw [Nat.sub_self, List.take_zero]
              exact this
            go_wp2
            go_roundw
            case rel => exact ⟨f + 1, f + 1, va, vc, L, by go_num, by go_num, rfl, by omega, by omega, HE, HO, .inl ⟨by omega, HR.out⟩, by omega⟩
            case measure => (simp [intOf]; try omega)
          · have hfi2 : f < i := by omega
            have df : decide ((f : Int) < (i : Int)) = true := decide_eq_true (by omega)
            have hiki : (f : Int) ≤ (i : Int) := by omega
            have hins : (i : Int) ≤ (n : Int) := by omega
            have HR : Hid ((L ++ [(l.drop f).take (i - f)]) ++ fldF ((l.drop (i + 1)).take (i + 1 - (i + 1))) (l.drop (i + 1)) = fldF [] l) := by
              have := HQ.out
              rw [if_pos rfl, if_neg (fun e => hf ((fld_emp (by rw [HNL.out]; omega) hfi).1 e))] at this
              rw [Nat.sub_self, List.take_zero, List.append_assoc]
              exact this
            generalize (l.drop f).take (i - f) = X at *
            go_wp2_with (at_builtin; refine wpList_append_own _ rfl _ _ 116 rfl B 9 i0 _ 1 16 Try.underlying116 HI.out.1 HI.out.2.1 HI.out.2.2.1 HI.out.2.2.2 rfl (by decide) (.slice va L.length vc) L.length (L.map strV) rfl (HO.out.alloc _) ⟨wr.heap.size, 0, none⟩ 1 1 [.string (s.extract f i)] rfl rfl (fun j u hj => new_cells wr [.string (s.extract f i)] 9 j u hj) (fun u hu => by simp at hu; subst hu; rfl) (by unfold maxLen; omega) (by omega) (by have := HE.out.size; have := HB.out; simp; omega) ?_; intro v6 w6 hown6 hgrow6 _)
            have hex6 := app_ex HE.out HO.out HB.out hgrow6
            have HE6 := hide hex6
            obtain ⟨va', vc', rfl⟩ := own_len hown6
            have HO6 : Hid (w6.ownsRow B 9 1 (.slice va' (L ++ [X]).length vc') (L ++ [X]).length ((L ++ [X]).map strV)) := by
              show World.ownsRow _ _ _ _ _ _ _
              rw [List.map_append, List.length_append]
              have := hown6
              rw [HXT.out] at this
              exact this
            have hLl : (L ++ [X]).length = L.length + 1 := by rw [List.length_append]; rfl
            generalize L ++ [X] = L' at *
            rw [← hLl]
            clear hex6 hown6 hgrow6
            go_wp2
            go_roundw
            case rel => exact ⟨i + 1, i + 1, va', vc', L', by go_num, by go_num, rfl, by omega, by omega, HE6, HO6, .inl ⟨by omega, HR.out⟩, by omega⟩
            case measure => (simp [intOf]; try omega)
        · have d32 : (c == 32) = false := by simpa using h32
          have HR : Hid (L ++ fldF ((l.drop f).take (i + 1 - f)) (l.drop (i + 1)) = fldF [] l) := by
            have := HQ.out
            rw [if_neg h32, fld_take HC.out hfi] at this
            exact this
          clear h32
          go_wp2
          go_roundw
          case rel => exact ⟨i + 1, f, va, vc, L, by go_num, rfl, rfl, by omega, by omega, HE, HO, .inl ⟨by omega, HR.out⟩, by omega⟩
          case measure => (simp [intOf]; try omega)
    · have hi1 : i = n + 1 := by omega
      have d1 : decide ((i : Int) ≤ (n : Int)) = false := decide_eq_false (by omega)
      have HR : Hid (L = fldF [] l) := by
        rcases HL.out with z | z
        · omega
        · exact z.2
      have HO6 : Hid (wr.ownsRow B 9 1 (.slice va L.length vc) (fldF [] l).length ((fldF [] l).map strV)) := by
        have h1 := HO.out
        have h2 := HR.out
        show World.ownsRow _ _ _ _ _ _ _
        rw [← h2]
        exact h1
      clear hi1
      go_wp2
      go_ret
      exact ⟨_, rfl, HE.out, HO6.out⟩
def shapeB (k : Int) : ByteArray := if k = 0 then ⟨#[114, 111, 117, 116, 101, 32, 97, 100, 100, 32, 68, 32, 80, 32, 118, 105, 97, 32, 72]⟩ else
  if k = 1 then ⟨#[114, 111, 117, 116, 101, 32, 100, 101, 108, 32, 68, 32, 80]⟩ else
  if k = 2 then ⟨#[97, 99, 108, 32, 105, 110, 115, 101, 114, 116, 32, 68, 32, 97, 116, 32, 73, 32, 65, 32, 80, 32, 99, 108, 97, 115, 115, 32, 67]⟩ else
  if k = 3 then ⟨#[97, 99, 108, 32, 114, 101, 109, 111, 118, 101, 32, 68, 32, 97, 116, 32, 73]⟩ else
  if k = 4 then ⟨#[108, 105, 110, 107, 32, 68, 32, 76, 32, 85]⟩ else ⟨#[105, 102, 97, 99, 101, 32, 68, 32, 85]⟩
set_option maxRecDepth 100000 in
/-- configm.shape -/
theorem shape_any (w : World) (k : Int) (hk : 0 ≤ k ∧ k < 6) : Calls Try.prog 47 #[.int .i64 k] w fun e w' => e = .returned (.string (shapeB k)) ∧ w = w' := by
  rcases (by omega : k = 0 ∨ k = 1 ∨ k = 2 ∨ k = 3 ∨ k = 4 ∨ k = 5) with e | e | e | e | e | e <;> subst e <;> (go_enter Try.func47, Try.ntmps47; go_wp2; go_ret; exact ⟨rfl, rfl⟩)
/-- the fields of a shape -/
def shF (k : Int) : List (List Int) := fldF [] (strL (shapeB k))
end Go.Proofs.Qxb6500778a
