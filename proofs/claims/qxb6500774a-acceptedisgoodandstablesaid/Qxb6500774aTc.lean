import Derived.Test.Qxb6500774aTb
namespace Go.Proofs.Qxb6500774a
open Go.RowKit
set_option linter.unusedVariables false
set_option linter.unusedSimpArgs false

theorem str_app (a b : List Int) : strOfNums (a ++ b) = strOfNums a ++ strOfNums b := by
  unfold strOfNums
  apply ByteArray.ext
  rw [ByteArray.data_append, List.map_append]
  simp
theorem str_size (l : List Int) : (strOfNums l).size = l.length := by
  unfold strOfNums
  show (List.toArray _).size = _
  simp
theorem strL_app (a b : ByteArray) : strL (a ++ b) = strL a ++ strL b := by
  unfold strL
  rw [ByteArray.data_append, Array.toList_append, List.map_append]
theorem app_size (a b : ByteArray) : (a ++ b).size = a.size + b.size := by rw [strL_len, strL_app, List.length_append, strL_len, strL_len]
def Byt (l : List Int) : Prop := ∀ c ∈ l, 0 ≤ c ∧ c ≤ 255
theorem strL_of {l : List Int} (h : Byt l) : strL (strOfNums l) = l := by
  unfold strL strOfNums
  simp only [List.map_map]
  have : ∀ l : List Int, Byt l → l.map ((fun b : UInt8 => (b.toNat : Int)) ∘ fun n : Int => UInt8.ofNat n.toNat) = l := fun l => by
    induction l with
    | nil => intro _; rfl
    | cons c l ih =>
      intro h
      have hc := h c (List.mem_cons_self ..)
      rw [List.map_cons, ih (fun x hx => h x (List.mem_cons_of_mem _ hx))]
      congr 1
      simp only [Function.comp_apply, UInt8.toNat_ofNat']
      omega
  exact this l h
theorem str_of (s : ByteArray) : strOfNums (strL s) = s := by
  unfold strOfNums strL
  obtain ⟨d⟩ := s
  congr 1
  rw [List.map_map]
  have : ∀ l : List UInt8, l.map ((fun n : Int => UInt8.ofNat n.toNat) ∘ fun b : UInt8 => (b.toNat : Int)) = l := fun l => by
    induction l with
    | nil => rfl
    | cons c l ih =>
      rw [List.map_cons, ih]
      congr 1
      simp
  rw [this]
theorem byt_str (s : ByteArray) : Byt (strL s) := fun c hc => by
  unfold strL at hc
  obtain ⟨b, _, rfl⟩ := List.mem_map.1 hc
  have := b.toNat_lt
  omega
def decL (v : Nat) : List Int := if v < 10 then [48 + (v : Int)] else decL (v / 10) ++ [48 + ((v % 10 : Nat) : Int)]
theorem decL_len : ∀ (k v : Nat), v < 10 ^ (k + 1) → (decL v).length ≤ k + 1 := by
  intro k
  induction k with
  | zero => intro v h; rw [decL, if_pos (by simpa using h)]; simp
  | succ k ih =>
    intro v h
    rw [decL]
    split
    · simp
    · have := ih (v / 10) (by rw [Nat.div_lt_iff_lt_mul (by decide)]; rw [Nat.pow_succ] at h; exact h)
      rw [List.length_append]
      simp only [List.length_singleton]
      omega
theorem decL_19 {v : Nat} (h : v ≤ 9223372036854775807) : (decL v).length ≤ 19 := decL_len 18 v (by omega)
theorem byt_dec : ∀ (v : Nat), Byt (decL v) := by
  intro v
  induction v using Nat.strongRecOn with
  | ind v ih =>
    intro c hc
    rw [decL] at hc
    split at hc
    · simp at hc; omega
    · rcases List.mem_append.1 hc with q | q
      · exact ih (v / 10) (by omega) c q
      · simp at q; omega
set_option linter.unusedSimpArgs false in
set_option maxRecDepth 100000 in
set_option maxHeartbeats 8000000 in
/-- syntax.numeral -/
theorem numeral_any : ∀ (v : Nat) (w : World), v ≤ 9223372036854775807 → Calls Try.prog 30 #[.int .i64 v] w fun e w' => e = .returned (.string (strOfNums (decL v))) ∧ Ex (fun _ => False) w w' := by
  intro v
  induction v using Nat.strongRecOn with
  | ind v ih =>
    intro w hv
    obtain ⟨r, hr⟩ : ∃ r, v % 10 = r := ⟨_, rfl⟩
    have hr10 : r < 10 := by omega
    have hrm : (v : Int) % 10 = (r : Int) := by omega
    have htm : ((v : Int)).tmod 10 = (r : Int) := by rw [Int.tmod_eq_emod_of_nonneg (by omega)]; omega
    have hw1 : wrap64 (48 + (r : Int)) = 48 + (r : Int) := by unfold wrap64; omega
    have hw2 : IntKind.u8.wrap (48 + (r : Int)) = 48 + (r : Int) := by rw [IntKind.wrap_u8]; omega
    have HE : Hid (Ex (fun _ => False) w (w.alloc (.cells #[.int .u8 (48 + (r : Int))] 5))) := (Ex.refl _ w).alloc _
    have hcv := run_convert_bytes_arg (P := Try.prog) (w.alloc (.cells #[.int .u8 (48 + (r : Int))] 5)) 32 5 Try.underlying32 Try.underlying5 w.heap.size 0 1 1 [48 + (r : Int)] rfl (fun j hj => by
      obtain rfl : j = 0 := by omega
      have := new_cells w [.int .u8 (48 + (r : Int))] 5 0 _ rfl
      rw [Addr.add_mid] at this
      exact this) 9 Try.underlying9
    by_cases h : v < 10
    · have d1 : decide ((v : Int) < 10) = true := decide_eq_true (by omega)
      have HD : Hid (decL v = [48 + (r : Int)]) := by
        show decL v = _
        rw [decL, if_pos h]
        congr 2
        omega
      rw [HD.out]
      clear HD ih
      go_enter Try.func30, Try.ntmps30
      go_wp2
      go_ret
      exact ⟨rfl, HE.out⟩
    · have d1 : decide ((v : Int) < 10) = false := decide_eq_false (by omega)
      have HI := hide (fun V => ih (v / 10) (by omega) V (by omega))
      have HD : Hid (strOfNums (decL v) = strOfNums (decL (v / 10)) ++ strOfNums [48 + (r : Int)]) := by
        show _ = _
        rw [← str_app]
        congr 1
        rw [decL, if_neg h, hr]
      have hq : (v : Int) / 10 = ((v / 10 : Nat) : Int) := by omega
      have htd : ((v : Int)).tdiv 10 = ((v / 10 : Nat) : Int) := by rw [Int.tdiv_eq_ediv_of_nonneg (by omega)]; omega
      have hsz : ¬ 9223372036854775807 < (strOfNums (decL (v / 10))).size + (strOfNums [48 + (r : Int)]).size := by
        rw [str_size, str_size]
        have := decL_19 (v := v / 10) (by omega)
        simp only [List.length_singleton]
        omega
      rw [HD.out]
      clear HD ih hr
      generalize v / 10 = a at *
      go_enter Try.func30, Try.ntmps30
      go_wp2_with fail
      refine (HI.out _).mono ?_
      rintro e w2 ⟨rfl, hex2⟩
      have HE2 := hide (HE.out.trans hex2)
      clear hex2
      simp only []
      go_wp2
      go_ret
      exact ⟨rfl, HE2.out⟩
theorem comma_any (w : World) (i : Nat) : Calls Try.prog 84 #[.int .i64 i] w fun e w' => e = .returned (.string (if i = 0 then ⟨#[]⟩ else ⟨#[44, 32]⟩)) ∧ w' = w := by
  by_cases h : i = 0
  · subst h
    rw [if_pos rfl]
    go_enter Try.func84, Try.ntmps84
    go_wp2
    go_ret
    exact ⟨rfl, rfl⟩
  · rw [if_neg h]
    have d1 : ((i : Int) == 0) = false := by simpa using h
    go_enter Try.func84, Try.ntmps84
    go_wp2
    go_ret
    exact ⟨rfl, rfl⟩
/-- n margins -/
def mrg : Nat → List Int
  | 0 => []
  | n + 1 => 32 :: 32 :: mrg n
theorem mrg_len (n : Nat) : (mrg n).length = 2 * n := by
  induction n with
  | zero => rfl
  | succ n ih => rw [mrg, List.length_cons, List.length_cons, ih]; omega
theorem mrg_snoc (n : Nat) : mrg (n + 1) = mrg n ++ [32, 32] := by
  induction n with
  | zero => rfl
  | succ n ih => show 32 :: 32 :: mrg (n + 1) = (32 :: 32 :: mrg n) ++ [32, 32]; rw [ih]; rfl
set_option linter.unusedSimpArgs false in
set_option maxRecDepth 100000 in
set_option maxHeartbeats 8000000 in
theorem line_any (w : World) (b : Nat) (X : List Int) (i : Nat) (x : ByteArray) (h : PR w b X i) (hi : i ≤ 1000000) (hl : X.length + 2 * i + (strL x).length ≤ 1099511627776) :
    Calls Try.prog 68 #[.pointer (some ⟨b, 0, none⟩), .string x] w (PRPost w b (X ++ mrg i ++ strL x) i) := by
  have HL := hide hl
  have HP := hide h
  clear hl h
  go_enter Try.func68, Try.ntmps68
  go_wp2_with fail
  go_loopw [4] (fun v4 wr => ∃ (k : Nat), v4 = .int .i64 k ∧ k ≤ i ∧ PR wr b (X ++ mrg k) i ∧ PGo b w wr) (fun v4 _ => i - (intOf v4).toNat)
  case atStart => exact ⟨0, rfl, Nat.zero_le _, by rw [show X ++ mrg 0 = X from List.append_nil X]; exact HP.out, PGo.refl _ _⟩
  case round =>
    obtain ⟨k, rfl, hk, hpr, hpg⟩ := hrel
    have HX := hide hpr
    have HG := hide hpg
    have c1 := hpr.c1
    clear hpr hpg HP
    by_cases hlt : k < i
    · have d1 : decide ((k : Int) < (i : Int)) = true := decide_eq_true (by omega)
      have d2 : decide (k < i) = true := decide_eq_true hlt
      have hw1 : IntKind.i64.wrap ((k : Int) + 1) = ((k + 1 : Nat) : Int) := by rw [IntKind.wrap_i64]; omega
      have HT := hide (text_any wr b (X ++ mrg k) i ⟨#[32, 32]⟩ HX.out (by rw [List.length_append, mrg_len]; have := HL.out; show _ + 2 ≤ _; omega))
      rw [show X ++ mrg k ++ strL ⟨#[32, 32]⟩ = X ++ mrg (k + 1) by rw [mrg_snoc, List.append_assoc]; rfl] at HT
      go_upto_region 3 with fail
      go_wp2_with fail
      refine HT.out.mono ?_
      rintro e w2 ⟨rfl, hp2, hg2⟩
      have HP2 := hide hp2
      have HG2 := hide (HG.out.trans hg2)
      clear hp2 hg2 HX HG HT c1
      simp only []
      go_wp2
      go_roundw
      case rel => exact ⟨k + 1, by go_num, by omega, HP2.out, HG2.out⟩
      case measure => simp [intOf]; omega
    · obtain rfl : k = i := by omega
      have d1 : decide ((k : Int) < (k : Int)) = false := decide_eq_false (by omega)
      have HT := hide (text_any wr b (X ++ mrg k) k x HX.out (by rw [List.length_append, mrg_len]; have := HL.out; omega))
      go_upto_region 4 with fail
      go_wp2_with fail
      refine HT.out.mono ?_
      rintro e w2 ⟨rfl, hp2, hg2⟩
      have HP2 := hide hp2
      have HG2 := hide (HG.out.trans hg2)
      clear hp2 hg2 HX HG HT c1
      simp only []
      go_wp2
      exact bodyPost_ret (v := .tuple #[]) (by simp [results, Try.results68]) rfl ⟨rfl, HP2.out, HG2.out⟩
end Go.Proofs.Qxb6500774a
