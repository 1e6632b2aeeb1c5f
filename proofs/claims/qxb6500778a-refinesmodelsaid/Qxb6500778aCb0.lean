import Derived.Test.Qxb6500778aRt1
import Derived.Test.Qxb6500778aP4
import Derived.Test.Qxb6500778aS3
import Derived.Laws.IdiomStrings
namespace Go.Proofs.Qxb6500778a
open Go.RowKit

/-! ### printed text as bytes -/
def Byt (l : List Int) : Prop := ∀ c ∈ l, 0 ≤ c ∧ c < 256
theorem byt_str (s : ByteArray) : Byt (strL s) := fun c hc => by
  unfold strL at hc
  obtain ⟨b, _, rfl⟩ := List.mem_map.1 hc
  have := UInt8.toNat_lt b
  omega
theorem byt_app {a b : List Int} (ha : Byt a) (hb : Byt b) : Byt (a ++ b) := fun c hc => by
  rcases List.mem_append.1 hc with h | h
  · exact ha c h
  · exact hb c h
theorem byt_if {p : Prop} [Decidable p] {a b : List Int} (ha : Byt a) (hb : Byt b) : Byt (if p then a else b) := by split <;> assumption
theorem byt_dec (v : Nat) : Byt (decL v) := fun c hc => by
  have h := List.all_eq_true.1 (dec_dig v) c hc
  simp only [dgP, decide_eq_true_eq] at h
  omega
theorem byt_one (c : Int) (h0 : 0 ≤ c) (h1 : c < 256) : Byt [c] := fun x hx => by
  rcases List.mem_cons.1 hx with rfl | hx
  · exact ⟨h0, h1⟩
  · cases hx
theorem byt_dev (v : Nat) : Byt (devT v) := byt_app (byt_app (a := [32]) (b := [114]) (byt_one _ (by decide) (by decide)) (byt_one _ (by decide) (by decide))) (byt_dec v)
theorem byt_pref (p l : Nat) : Byt (prefT p l) := byt_app (byt_one _ (by decide) (by decide)) (byt_app (byt_dec p) (byt_app (byt_one _ (by decide) (by decide)) (byt_dec l)))
theorem byt_chg (c : Chg) : Byt (chgT c) := by
  unfold chgT
  repeat' first
    | exact byt_str _
    | exact byt_dec _
    | exact byt_dev _
    | exact byt_pref _ _
    | apply byt_if
    | apply byt_app
theorem byt_print (id : Int) (C : List Chg) : Byt (printT id C) := by
  unfold printT
  refine byt_app (byt_str _) (byt_app (byt_dec _) (byt_app (byt_str _) (byt_app (fun c hc => ?_) (byt_str _))))
  obtain ⟨x, _, hx⟩ := List.mem_flatMap.1 hc
  exact byt_chg x c hx
theorem strL_of {l : List Int} (h : Byt l) : strL (strOfNums l) = l := by
  unfold strL strOfNums
  simp only [List.map_map]
  have : ∀ l : List Int, Byt l → l.map ((fun b : UInt8 => (b.toNat : Int)) ∘ fun n : Int => UInt8.ofNat n.toNat) = l := fun l => by
    induction l with
    | nil => intro _; rfl
    | cons c l ih =>
      intro h
      have hc := h c (List.mem_cons_self ..)
      rw [List.map_cons, ih (fun x hx => h x (List.mem_cons_of_mem _ hx))]
      congr 1
      simp only [Function.comp_apply, UInt8.toNat_ofNat']
      omega
  exact this l h
theorem print_len (id : Int) (C : List Chg) (hid : 0 ≤ id ∧ id ≤ 999999) (hlen : C.length ≤ 128) (hg : ∀ c ∈ C, GoodC c) : (printT id C).length ≤ 9223372036854775807 := by
  unfold printT
  have h1 := decL_len id.toNat
  have h2 : ∀ C : List Chg, (∀ c ∈ C, GoodC c) → (C.flatMap chgT).length ≤ C.length * 700 := fun C => by
    induction C with
    | nil => intro _; simp
    | cons c C ih =>
      intro h
      rw [List.flatMap_cons, List.length_append, List.length_cons]
      have := chgT_len c (h c (List.mem_cons_self ..))
      have := ih (fun x hx => h x (List.mem_cons_of_mem _ hx))
      omega
  have h3 := h2 C hg
  simp only [List.length_append, ← strL_len]
  have e1 : (⟨#[98, 97, 116, 99, 104, 32]⟩ : ByteArray).size = 6 := rfl
  have e2 : (⟨#[32, 123, 10]⟩ : ByteArray).size = 3 := rfl
  have e3 : (⟨#[125, 10]⟩ : ByteArray).size = 2 := rfl
  rw [e1, e2, e3]
  omega
/-- []byte(s): the bytes in the new block -/
theorem conv_src (w : World) (s : ByteArray) (l : List Int) (hl : strL s = l) (cap : Nat) (t : Nat) (fr : Nat × Nat) : SrcAt (w.drew.alloc (.cells (bytesRow s cap) t fr)) (some ⟨w.heap.size, 0, none⟩) l := fun i c hc => by
  refine ⟨w.heap.size, 0, rfl, ?_⟩
  rw [Nat.zero_add]
  have hi : i < s.data.size := by
    have := (List.getElem?_eq_some_iff.1 hc).1
    rw [← hl, ← strL_len] at this
    exact this
  have e := World.cell?_alloc_mark w.drew (bytesRow s cap) t fr i
  have hs : w.drew.heap.size = w.heap.size := rfl
  rw [hs] at e
  rw [e, bytesRow_at s cap i hi]
  rw [← hl] at hc
  unfold strL at hc
  rw [List.getElem?_map, List.getElem?_eq_getElem (by simpa using hi)] at hc
  simp only [Option.map_some, Option.some.injEq, Array.getElem_toList] at hc
  rw [hc]
/-- sameBatch, of two batches that hold the same -/
theorem cells9 {w : World} {B : Nat} {v : Value} {C : List Chg} (h : w.ownsRow B 45 9 v C.length (flatC C)) {g c : Nat} (hv : v = .slice (some ⟨g, 0, none⟩) C.length c) {i : Nat} {x : Chg} (hi : C[i]? = some x) : CO w g (i * 9) x := co_of h hv hi
set_option linter.unusedSimpArgs false in
set_option maxRecDepth 100000 in
set_option maxHeartbeats 8000000 in
theorem sameBatch_any (w : World) (B B' : Nat) (id : Int) (v u : Value) (C : List Chg) (ho : w.ownsRow B 45 9 v C.length (flatC C)) (hp : w.ownsRow B' 45 9 u C.length (flatC C)) (hlen : C.length ≤ 128) :
    Calls Try.prog 35 #[.agg #[.int .i64 id, v], .agg #[.int .i64 id, u]] w fun e w' => e = .returned (.bool true) ∧ Ex (fun _ => False) w w' := by
  obtain ⟨sa, sc, rfl⟩ := own_len ho
  obtain ⟨ta, tc, rfl⟩ := own_len hp
  have HE : Hid (Ex (fun _ => False) w ((w.alloc (.cells #[.int .i64 id, .slice sa C.length sc] 52)).alloc (.cells #[.int .i64 id, .slice ta C.length tc] 52))) := ((Ex.refl _ w).alloc _).alloc _
  have nc := fun j u h => new_cells w [.int .i64 id, .slice sa C.length sc] 52 j u h
  have nd := fun j u h => new_cells (w.alloc (.cells #[.int .i64 id, .slice sa C.length sc] 52)) [.int .i64 id, .slice ta C.length tc] 52 j u h
  have c0 := ((Ex.refl (fun _ => False) _).alloc (.cells #[.int .i64 id, .slice ta C.length tc] 52)).cell (fun e => e) (nc 0 _ rfl)
  have c1 := ((Ex.refl (fun _ => False) _).alloc (.cells #[.int .i64 id, .slice ta C.length tc] 52)).cell (fun e => e) (nc 1 _ rfl)
  have d0 := nd 0 _ rfl
  have d1 := nd 1 _ rfl
  rw [show (w.alloc (.cells #[.int .i64 id, .slice sa C.length sc] 52)).heap.size = w.heap.size + 1 by simp] at d0 d1
  simp only [Addr.add_mid, Nat.zero_add] at c0 c1 d0 d1
  have HO := hide (own_kept ho HE.out (fun _ _ e => e))
  have HP := hide (own_kept hp HE.out (fun _ _ e => e))
  clear nc nd ho hp
  obtain ⟨n, hn⟩ : ∃ n, C.length = n := ⟨_, rfl⟩
  rw [hn] at HO HP HE c0 c1 d0 d1 hlen ⊢
  have HNL := hide hn
  clear hn
  go_enter Try.func35, Try.ntmps35
  go_upto_region 1 with fail
  generalize (w.alloc (.cells #[.int .i64 id, .slice sa n sc] 52)).alloc (.cells #[.int .i64 id, .slice ta n tc] 52) = W at *
  obtain ⟨r1, hr1⟩ : ∃ r, w.heap.size + 1 = r := ⟨_, rfl⟩
  rw [hr1] at d0 d1 ⊢
  obtain ⟨r, hr⟩ : ∃ r, w.heap.size = r := ⟨_, rfl⟩
  rw [hr] at c0 c1 ⊢
  clear hr hr1
  go_upto_region 3 with fail
  have HC1 := hide c1
  have HD1 := hide d1
  clear c0 c1 d0 d1
  go_wp2_with fail
  go_loopw [5] (fun s5 wr => ∃ (i : Nat), s5 = .int .i64 i ∧ i ≤ n ∧ Hid (Ex (fun _ => False) W wr)) (fun s5 _ => n - (intOf s5).toNat)
  case atStart => exact ⟨0, rfl, Nat.zero_le _, Ex.refl _ _⟩
  case round =>
    obtain ⟨i, rfl, hin, HX⟩ := hrel
    have c1 := HX.out.cell (fun e => e) HC1.out
    have d1 := HX.out.cell (fun e => e) HD1.out
    by_cases hi : i < n
    · have hib : decide ((i : Int) < (n : Int)) = true := decide_eq_true (by omega)
      have hii : (i : Int) < (n : Int) := by omega
      have o1 := own_kept HO.out HX.out (fun _ _ e => e)
      have o2 := own_kept HP.out HX.out (fun _ _ e => e)
      obtain ⟨x, hx⟩ : ∃ x, C[i]? = some x := ⟨_, List.getElem?_eq_getElem (by rw [HNL.out]; exact hi)⟩
      obtain ⟨g, cc, hv⟩ := own_some o1 (by omega)
      obtain ⟨g', cc', hv'⟩ := own_some o2 (by omega)
      injection hv with hv1 hv2 hv3
      injection hv' with hv1' hv2' hv3'
      subst hv1 hv1'
      have e1 : Value.slice (some ⟨g, 0, none⟩) n sc = .slice (some ⟨g, 0, none⟩) C.length sc := by rw [HNL.out]
      have e2 : Value.slice (some ⟨g', 0, none⟩) n tc = .slice (some ⟨g', 0, none⟩) C.length tc := by rw [HNL.out]
      rw [← HNL.out] at o1 o2
      obtain ⟨x0, x1, x2, x3, x4, x5, x6, x7, x8⟩ := co_of o1 rfl hx
      obtain ⟨y0, y1, y2, y3, y4, y5, y6, y7, y8⟩ := co_of o2 rfl hx
      obtain ⟨ykd, ydv, yhp, ypr, yln, yix, ycl, ypm, yup⟩ := x
      simp only [] at x0 x1 x2 x3 x4 x5 x6 x7 x8 y0 y1 y2 y3 y4 y5 y6 y7 y8
      clear o1 o2 e1 e2 hx hv2 hv3 hv2' hv3'
      go_wp2_with fail
      go_quiet (fail)
      have HXN := hide (HX.out.drewN nq)
      clear c1 d1 HX x0 x1 x2 x3 x4 x5 x6 x7 x8 y0 y1 y2 y3 y4 y5 y6 y7 y8
      go_wp2
      go_roundw
      case rel => exact ⟨i + 1, by go_num, by omega, HXN⟩
      case measure => simp [intOf]; omega
    · obtain rfl : i = n := by omega
      have hib : decide ((i : Int) < (i : Int)) = false := decide_eq_false (by omega)
      go_wp2
      go_ret
      exact ⟨rfl, HE.out.trans HX.out⟩
end Go.Proofs.Qxb6500778a
