import Derived.Test.Qxb6500778aPb0
namespace Go.Proofs.Qxb6500778a
open Go.RowKit

set_option maxRecDepth 100000 in
theorem wordByte_any (w : World) (c : Int) : Calls Try.prog 65 #[.int .u8 c] w fun e w' => e = .returned (.bool (wbP c)) ∧ w = w' := by
  obtain ⟨b1, d1⟩ : ∃ b, decide ((48 : Int) ≤ c) = b := ⟨_, rfl⟩
  obtain ⟨b2, d2⟩ : ∃ b, decide (c ≤ (57 : Int)) = b := ⟨_, rfl⟩
  obtain ⟨b3, d3⟩ : ∃ b, decide ((97 : Int) ≤ c) = b := ⟨_, rfl⟩
  obtain ⟨b4, d4⟩ : ∃ b, decide (c ≤ (122 : Int)) = b := ⟨_, rfl⟩
  have e : wbP c = ((b1 && b2) || (b3 && b4)) := by
    rw [← d1, ← d2, ← d3, ← d4]
    unfold wbP dgP
    rw [Bool.decide_and, Bool.decide_and]
  rw [e]
  clear e
  cases b1 <;> cases b2 <;> cases b3 <;> cases b4 <;> (go_enter Try.func65, Try.ntmps65; go_wp2; go_ret; exact ⟨rfl, rfl⟩)
theorem str_get {s : ByteArray} {l : List Int} (hs : strL s = l) {k : Nat} {c : Int} (hc : l[k]? = some c) (h : k < s.size) : ((s[k]'h).toNat : Int) = c := by
  subst hs
  unfold strL at hc
  rw [List.getElem?_map, List.getElem?_eq_getElem (by simpa using h)] at hc
  simp only [Option.map_some, Option.some.injEq] at hc
  rw [← hc]
  rfl
theorem str_list (s : ByteArray) : strL s = s.toList.map (fun b => (b.toNat : Int)) := by
  unfold strL
  rw [ByteArray.toList_eq]
theorem u8_inj {a b : UInt8} (h : (a.toNat : Int) = (b.toNat : Int)) : a = b := UInt8.toNat_inj.1 (by omega)
theorem map_u8_inj : ∀ {a b : List UInt8}, a.map (fun b => (b.toNat : Int)) = b.map (fun b => (b.toNat : Int)) → a = b
  | [], [], _ => rfl
  | [], _ :: _, h => by cases h
  | _ :: _, [], h => by cases h
  | x :: a, y :: b, h => by
    rw [List.map_cons, List.map_cons] at h
    injection h with h1 h2
    rw [u8_inj h1, map_u8_inj h2]
theorem str_eq (s : ByteArray) (y : List UInt8) : (s.toList == y) = (strL s == y.map (fun b => (b.toNat : Int))) := by
  rw [str_list]
  by_cases h : s.toList = y
  · rw [h, beq_self_eq_true, beq_self_eq_true]
  · have h2 : s.toList.map (fun b => (b.toNat : Int)) ≠ y.map (fun b => (b.toNat : Int)) := fun e => h (map_u8_inj e)
    rw [beq_eq_false_iff_ne.2 h, beq_eq_false_iff_ne.2 h2]
theorem str_emp (s : ByteArray) : s.toList.isEmpty = (strL s).isEmpty := by rw [str_list]; cases s.toList <;> rfl
set_option maxRecDepth 100000 in
set_option maxHeartbeats 4000000 in
/-- configm.number -/
theorem number_any (w : World) (s : ByteArray) (l : List Int) (hs : strL s = l) (hl : l.length ≤ 1000000) : Calls Try.prog 66 #[.string s] w fun e w' => e = .returned (.tuple #[.int .i64 (dgV l), .bool (dgB l)]) ∧ w = w' := by
  have HS := hide hs
  obtain ⟨n, hn⟩ : ∃ n, l.length = n := ⟨_, rfl⟩
  have hn2 : s.size = n := by rw [strL_len, hs, hn]
  obtain ⟨b, hb⟩ : ∃ b, s.toList.isEmpty = b := ⟨_, rfl⟩
  have HB : Hid (l.isEmpty = b) := (congrArg List.isEmpty hs).symm.trans ((str_emp s).symm.trans hb)
  have HN := hide hn
  rw [hn] at hl
  clear hs hn
  cases b
  · have hb2 := hb
    go_enter Try.func66, Try.ntmps66
    go_wp2_with fail
    go_loopw [4, 5] (fun s4 s5 wr => ∃ (k : Nat) (v : Int), k ≤ n ∧ s5 = .int .i64 k ∧ s4 = .int .i64 v ∧ Hid (dgF l 0 = dgF (l.drop k) v) ∧ (0 ≤ v ∧ v ≤ 1000000) ∧ w = wr) (fun _ s5 _ => n - (intOf s5).toNat)
    case atStart => exact ⟨0, 0, Nat.zero_le _, rfl, rfl, rfl, ⟨by omega, by omega⟩, rfl⟩
    case round =>
      obtain ⟨k, v, hk, rfl, rfl, HE, hv, rfl⟩ := hrel
      by_cases hlt : k < n
      · have d1 : decide ((k : Int) < (n : Int)) = true := decide_eq_true (by omega)
        have hki : (k : Int) < (n : Int) := by omega
        obtain ⟨c, hc⟩ : ∃ c, l[k]? = some c := ⟨_, List.getElem?_eq_getElem (by rw [HN.out]; exact hlt)⟩
        rw [drop_cons hc, dgF] at HE
        have hx := str_get HS.out hc (by omega)
        clear hc
        by_cases hd : 48 ≤ c ∧ c ≤ 57
        · rw [if_neg (by simp [dgP, hd])] at HE
          have e1 : decide (c < 48) = false := decide_eq_false (by omega)
          have e2 : decide (57 < c) = false := decide_eq_false (by omega)
          obtain ⟨dd, hdd⟩ : ∃ dd, c - 48 = dd := ⟨_, rfl⟩
          rw [hdd] at HE
          have hb : 0 ≤ dd ∧ dd ≤ 9 := by omega
          have hw1 : IntKind.u8.wrap (c - 48) = dd := by rw [IntKind.wrap_u8]; omega
          have hw2 : IntKind.i64.wrap dd = dd := by rw [IntKind.wrap_i64]; omega
          have hw5 : IntKind.i64.wrap (v * 10) = v * 10 := by rw [IntKind.wrap_i64]; omega
          have hw6 : IntKind.i64.wrap (v * 10 + dd) = v * 10 + dd := by rw [IntKind.wrap_i64]; omega
          by_cases hg : 1000000 < v * 10 + dd
          · have d2 : decide (1000000 < v * 10 + dd) = true := decide_eq_true hg
            rw [if_pos hg] at HE
            go_wp2
            go_roundw
            case rel => exact ⟨k + 1, 1000000, by omega, by go_num, rfl, HE, ⟨by omega, by omega⟩, trivial⟩
            case measure => simp [intOf]; omega
          · have d2 : decide (1000000 < v * 10 + dd) = false := decide_eq_false hg
            rw [if_neg hg] at HE
            go_wp2
            go_roundw
            case rel => exact ⟨k + 1, v * 10 + dd, by omega, by go_num, rfl, HE, ⟨by omega, by omega⟩, trivial⟩
            case measure => simp [intOf]; omega
        · rw [if_pos (by simp [dgP]; omega)] at HE
          have HV : Hid (dgV l = 0 ∧ dgB l = false) := by
            constructor
            · unfold dgV; rw [HE.out]; rfl
            · unfold dgB; rw [HE.out]; rfl
          by_cases h1 : c < 48
          · have e1 : decide (c < 48) = true := decide_eq_true h1
            go_wp2
            exact bodyPost_ret (v := .tuple #[.int .i64 0, .bool false]) (by simp [results, Try.results66, go_sem]) rfl ⟨by rw [HV.out.1, HV.out.2], rfl⟩
          · have e1 : decide (c < 48) = false := decide_eq_false h1
            have e2 : decide (57 < c) = true := decide_eq_true (by omega)
            go_wp2
            exact bodyPost_ret (v := .tuple #[.int .i64 0, .bool false]) (by simp [results, Try.results66, go_sem]) rfl ⟨by rw [HV.out.1, HV.out.2], rfl⟩
      · obtain rfl : k = n := by omega
        have HV : Hid (dgV l = v ∧ dgB l = true) := by
          have e := HE.out
          rw [List.drop_of_length_le (by rw [HN.out]; exact Nat.le_refl _), dgF] at e
          have hne : 0 < l.length := by
            cases l with
            | nil => cases HB.out
            | cons => simp
          constructor
          · unfold dgV; rw [e]; rfl
          · unfold dgB; rw [e]; simp [hne]
        go_wp2
        exact bodyPost_ret (v := .tuple #[.int .i64 v, .bool true]) (by simp [results, Try.results66, go_sem]) rfl ⟨by rw [HV.out.1, HV.out.2], rfl⟩
  · have he : l = [] := by
      cases l with
      | nil => rfl
      | cons => cases HB.out
    subst he
    go_enter Try.func66, Try.ntmps66
    go_wp2
    exact bodyPost_ret (v := .tuple #[.int .i64 0, .bool false]) (by simp [results, Try.results66, go_sem]) rfl ⟨rfl, rfl⟩
/-- a word that is not what was wanted -/
def wrE (l : List Int) : Int := match l with
  | [c] => if wbP c = true then 2 else if c = 47 then 2 else if c = 123 then 2 else if c = 125 then 2 else 1
  | _ => 2
theorem two_new (w : World) (a b : List Value) (t u : Nat) : (∀ j v, a[j]? = some v → ((w.alloc (.cells a.toArray t)).alloc (.cells b.toArray u)).cell? ⟨w.heap.size, j, none⟩ = some v) ∧ (∀ j v, b[j]? = some v → ((w.alloc (.cells a.toArray t)).alloc (.cells b.toArray u)).cell? ⟨w.heap.size + 1, j, none⟩ = some v) ∧ (∀ j, ((w.alloc (.cells a.toArray t)).alloc (.cells b.toArray u)).frozen? ⟨w.heap.size + 1, j, none⟩ = false) ∧ Ex (fun _ => False) w ((w.alloc (.cells a.toArray t)).alloc (.cells b.toArray u)) := by
  refine ⟨fun j v h => ?_, fun j v h => ?_, fun j => by simp [go_sem], ((Ex.refl _ w).alloc _).alloc _⟩
  · have := new_cells w a t j v h
    rw [Addr.add_mid, Nat.zero_add] at this
    exact ((Ex.refl (fun _ => False) _).alloc _).cell (fun e => e) this
  · have := new_cells (w.alloc (.cells a.toArray t)) b u j v h
    rw [Addr.add_mid, Nat.zero_add, show (w.alloc (.cells a.toArray t)).heap.size = w.heap.size + 1 by simp] at this
    exact this
theorem wr_one {c : Int} (h : wbP c = true) : wrE [c] = 2 := by unfold wrE; simp only []; rw [if_pos h]
theorem beq_one (c d : Int) : ([c] == [d]) = (c == d) := by
  by_cases h : c = d
  · subst h; rw [beq_self_eq_true, beq_self_eq_true]
  · rw [beq_eq_false_iff_ne.2 h, beq_eq_false_iff_ne.2 (fun e => h (by injection e))]
set_option linter.unusedSimpArgs false in
set_option maxRecDepth 100000 in
set_option maxHeartbeats 4000000 in
/-- configm.wrong -/
theorem wrong_any (w : World) (s : ByteArray) (l : List Int) (q : Int) (hs : strL s = l) (hl : l.length ≤ 1000000) : Calls Try.prog 42 #[.agg #[.string s, .int .i64 q]] w fun e w' => e = .returned (.agg #[.int .i64 (wrE l), .int .i64 q]) ∧ Ex (fun _ => False) w w' := by
  obtain ⟨h1, h2, h3, h4⟩ := two_new w [.string s, .int .i64 q] [.int .i64 0, .int .i64 0] 107 109
  have c0 := h1 0 _ rfl
  have c1 := h1 1 _ rfl
  have d0 := h2 0 _ rfl
  have d1 := h2 1 _ rfl
  have HE := hide h4
  clear h1 h2 h4
  have hsz : s.size = l.length := by rw [strL_len, hs]
  rcases l with _ | ⟨c, _ | ⟨d, r⟩⟩
  · have hz : s.size = 0 := hsz
    clear hsz hl hs
    go_enter Try.func42, Try.ntmps42
    go_upto_region 1 with fail
    obtain ⟨W, hW⟩ : ∃ W, W = (w.alloc (.cells #[.string s, .int .i64 q] 107)).alloc (.cells #[.int .i64 0, .int .i64 0] 109) := ⟨_, rfl⟩
    rw [← hW] at HE c0 c1 d0 d1 h3 ⊢
    have hr : w.heap.size + 1 ≠ w.heap.size := by omega
    obtain ⟨r1, hr1⟩ : ∃ r, w.heap.size + 1 = r := ⟨_, rfl⟩
    rw [hr1] at d0 d1 h3 hr ⊢
    have hrw : w.heap.size ≤ r1 := by omega
    obtain ⟨r0, hr0⟩ : ∃ r, w.heap.size = r := ⟨_, rfl⟩
    rw [hr0] at c0 c1 hr ⊢
    clear hW hr0 hr1
    have HF : ∀ e, Hid (Ex (fun _ => False) w ((W.setCell ⟨r1, 0, none⟩ (.int .i64 e)).setCell ⟨r1, 1, none⟩ (.int .i64 q))) := fun e => (HE.out.setNew hrw _).setNew hrw _
    go_wp2
    refine bodyPost_ret (v := .agg #[.int .i64 2, .int .i64 q]) (by simp [results, Try.results42, go_sem, d0, d1]) rfl ⟨rfl, (HF 2).out⟩
  · have hz : s.size = 1 := hsz
    have hx := str_get hs (k := 0) rfl (by omega)
    have q1 : (s.toList == [47]) = (c == 47) := (str_eq s [47]).trans (by rw [hs]; exact beq_one c 47)
    have q2 : (s.toList == [123]) = (c == 123) := (str_eq s [123]).trans (by rw [hs]; exact beq_one c 123)
    have q3 : (s.toList == [125]) = (c == 125) := (str_eq s [125]).trans (by rw [hs]; exact beq_one c 125)
    clear hsz hl hs
    obtain ⟨b, hb⟩ : ∃ b, wbP c = b := ⟨_, rfl⟩
    have HWB := hide (fun W => wordByte_any W c)
    have HR : Hid (wrE [c] = if wbP c = true then 2 else if c = 47 then 2 else if c = 123 then 2 else if c = 125 then 2 else 1) := rfl
    rw [hb] at HWB HR
    clear hb
    obtain ⟨y, hy⟩ : ∃ y, wrE [c] = y := ⟨_, rfl⟩
    rw [hy] at HR ⊢
    clear hy
    cases b
    · by_cases k1 : c = 47
      · subst k1
        obtain rfl : y = 2 := HR.out
        go_enter Try.func42, Try.ntmps42
        go_upto_region 1 with fail
        obtain ⟨W, hW⟩ : ∃ W, W = (w.alloc (.cells #[.string s, .int .i64 q] 107)).alloc (.cells #[.int .i64 0, .int .i64 0] 109) := ⟨_, rfl⟩
        rw [← hW] at HE c0 c1 d0 d1 h3 ⊢
        have hr : w.heap.size + 1 ≠ w.heap.size := by omega
        obtain ⟨r1, hr1⟩ : ∃ r, w.heap.size + 1 = r := ⟨_, rfl⟩
        rw [hr1] at d0 d1 h3 hr ⊢
        have hrw : w.heap.size ≤ r1 := by omega
        obtain ⟨r0, hr0⟩ : ∃ r, w.heap.size = r := ⟨_, rfl⟩
        rw [hr0] at c0 c1 hr ⊢
        clear hW hr0 hr1
        have HF : ∀ e, Hid (Ex (fun _ => False) w ((W.setCell ⟨r1, 0, none⟩ (.int .i64 e)).setCell ⟨r1, 1, none⟩ (.int .i64 q))) := fun e => (HE.out.setNew hrw _).setNew hrw _
        go_wp2_with (go_at_call 65; refine (HWB.out _).mono ?_; rintro e wq ⟨rfl, rfl⟩; simp only [])
        refine bodyPost_ret (v := .agg #[.int .i64 2, .int .i64 q]) (by simp [results, Try.results42, go_sem, d0, d1]) rfl ⟨rfl, (HF 2).out⟩
      · by_cases k2 : c = 123
        · subst k2
          obtain rfl : y = 2 := HR.out
          go_enter Try.func42, Try.ntmps42
          go_upto_region 1 with fail
          obtain ⟨W, hW⟩ : ∃ W, W = (w.alloc (.cells #[.string s, .int .i64 q] 107)).alloc (.cells #[.int .i64 0, .int .i64 0] 109) := ⟨_, rfl⟩
          rw [← hW] at HE c0 c1 d0 d1 h3 ⊢
          have hr : w.heap.size + 1 ≠ w.heap.size := by omega
          obtain ⟨r1, hr1⟩ : ∃ r, w.heap.size + 1 = r := ⟨_, rfl⟩
          rw [hr1] at d0 d1 h3 hr ⊢
          have hrw : w.heap.size ≤ r1 := by omega
          obtain ⟨r0, hr0⟩ : ∃ r, w.heap.size = r := ⟨_, rfl⟩
          rw [hr0] at c0 c1 hr ⊢
          clear hW hr0 hr1
          have HF : ∀ e, Hid (Ex (fun _ => False) w ((W.setCell ⟨r1, 0, none⟩ (.int .i64 e)).setCell ⟨r1, 1, none⟩ (.int .i64 q))) := fun e => (HE.out.setNew hrw _).setNew hrw _
          go_wp2_with (go_at_call 65; refine (HWB.out _).mono ?_; rintro e wq ⟨rfl, rfl⟩; simp only [])
          refine bodyPost_ret (v := .agg #[.int .i64 2, .int .i64 q]) (by simp [results, Try.results42, go_sem, d0, d1]) rfl ⟨rfl, (HF 2).out⟩
        · by_cases k3 : c = 125
          · subst k3
            obtain rfl : y = 2 := HR.out
            go_enter Try.func42, Try.ntmps42
            go_upto_region 1 with fail
            obtain ⟨W, hW⟩ : ∃ W, W = (w.alloc (.cells #[.string s, .int .i64 q] 107)).alloc (.cells #[.int .i64 0, .int .i64 0] 109) := ⟨_, rfl⟩
            rw [← hW] at HE c0 c1 d0 d1 h3 ⊢
            have hr : w.heap.size + 1 ≠ w.heap.size := by omega
            obtain ⟨r1, hr1⟩ : ∃ r, w.heap.size + 1 = r := ⟨_, rfl⟩
            rw [hr1] at d0 d1 h3 hr ⊢
            have hrw : w.heap.size ≤ r1 := by omega
            obtain ⟨r0, hr0⟩ : ∃ r, w.heap.size = r := ⟨_, rfl⟩
            rw [hr0] at c0 c1 hr ⊢
            clear hW hr0 hr1
            have HF : ∀ e, Hid (Ex (fun _ => False) w ((W.setCell ⟨r1, 0, none⟩ (.int .i64 e)).setCell ⟨r1, 1, none⟩ (.int .i64 q))) := fun e => (HE.out.setNew hrw _).setNew hrw _
            go_wp2_with (go_at_call 65; refine (HWB.out _).mono ?_; rintro e wq ⟨rfl, rfl⟩; simp only [])
            refine bodyPost_ret (v := .agg #[.int .i64 2, .int .i64 q]) (by simp [results, Try.results42, go_sem, d0, d1]) rfl ⟨rfl, (HF 2).out⟩
          · rw [if_neg (by decide), if_neg k1, if_neg k2, if_neg k3] at HR
            obtain rfl : y = 1 := HR.out
            have e1 : (c == 47) = false := by simpa using k1
            have e2 : (c == 123) = false := by simpa using k2
            have e3 : (c == 125) = false := by simpa using k3
            rw [e1] at q1
            rw [e2] at q2
            rw [e3] at q3
            clear k1 k2 k3 e1 e2 e3
            go_enter Try.func42, Try.ntmps42
            go_upto_region 1 with fail
            obtain ⟨W, hW⟩ : ∃ W, W = (w.alloc (.cells #[.string s, .int .i64 q] 107)).alloc (.cells #[.int .i64 0, .int .i64 0] 109) := ⟨_, rfl⟩
            rw [← hW] at HE c0 c1 d0 d1 h3 ⊢
            have hr : w.heap.size + 1 ≠ w.heap.size := by omega
            obtain ⟨r1, hr1⟩ : ∃ r, w.heap.size + 1 = r := ⟨_, rfl⟩
            rw [hr1] at d0 d1 h3 hr ⊢
            have hrw : w.heap.size ≤ r1 := by omega
            obtain ⟨r0, hr0⟩ : ∃ r, w.heap.size = r := ⟨_, rfl⟩
            rw [hr0] at c0 c1 hr ⊢
            clear hW hr0 hr1
            have HF : ∀ e, Hid (Ex (fun _ => False) w ((W.setCell ⟨r1, 0, none⟩ (.int .i64 e)).setCell ⟨r1, 1, none⟩ (.int .i64 q))) := fun e => (HE.out.setNew hrw _).setNew hrw _
            go_wp2_with (go_at_call 65; refine (HWB.out _).mono ?_; rintro e wq ⟨rfl, rfl⟩; simp only [])
            refine bodyPost_ret (v := .agg #[.int .i64 1, .int .i64 q]) (by simp [results, Try.results42, go_sem, d0, d1]) rfl ⟨rfl, (HF 1).out⟩
    · obtain rfl : y = 2 := HR.out
      clear q1 q2 q3
      go_enter Try.func42, Try.ntmps42
      go_upto_region 1 with fail
      obtain ⟨W, hW⟩ : ∃ W, W = (w.alloc (.cells #[.string s, .int .i64 q] 107)).alloc (.cells #[.int .i64 0, .int .i64 0] 109) := ⟨_, rfl⟩
      rw [← hW] at HE c0 c1 d0 d1 h3 ⊢
      have hr : w.heap.size + 1 ≠ w.heap.size := by omega
      obtain ⟨r1, hr1⟩ : ∃ r, w.heap.size + 1 = r := ⟨_, rfl⟩
      rw [hr1] at d0 d1 h3 hr ⊢
      have hrw : w.heap.size ≤ r1 := by omega
      obtain ⟨r0, hr0⟩ : ∃ r, w.heap.size = r := ⟨_, rfl⟩
      rw [hr0] at c0 c1 hr ⊢
      clear hW hr0 hr1
      have HF : ∀ e, Hid (Ex (fun _ => False) w ((W.setCell ⟨r1, 0, none⟩ (.int .i64 e)).setCell ⟨r1, 1, none⟩ (.int .i64 q))) := fun e => (HE.out.setNew hrw _).setNew hrw _
      go_wp2_with (go_at_call 65; refine (HWB.out _).mono ?_; rintro e wq ⟨rfl, rfl⟩; simp only [])
      refine bodyPost_ret (v := .agg #[.int .i64 2, .int .i64 q]) (by simp [results, Try.results42, go_sem, d0, d1]) rfl ⟨rfl, (HF 2).out⟩
  · have hz : ((s.size : Int) == 1) = false := by rw [hsz]; simp; omega
    obtain ⟨n, hn⟩ : ∃ n, s.size = n := ⟨_, rfl⟩
    rw [hn] at hz
    clear hsz hl hs
    go_enter Try.func42, Try.ntmps42
    go_upto_region 1 with fail
    obtain ⟨W, hW⟩ : ∃ W, W = (w.alloc (.cells #[.string s, .int .i64 q] 107)).alloc (.cells #[.int .i64 0, .int .i64 0] 109) := ⟨_, rfl⟩
    rw [← hW] at HE c0 c1 d0 d1 h3 ⊢
    have hr : w.heap.size + 1 ≠ w.heap.size := by omega
    obtain ⟨r1, hr1⟩ : ∃ r, w.heap.size + 1 = r := ⟨_, rfl⟩
    rw [hr1] at d0 d1 h3 hr ⊢
    have hrw : w.heap.size ≤ r1 := by omega
    obtain ⟨r0, hr0⟩ : ∃ r, w.heap.size = r := ⟨_, rfl⟩
    rw [hr0] at c0 c1 hr ⊢
    clear hW hr0 hr1
    have HF : ∀ e, Hid (Ex (fun _ => False) w ((W.setCell ⟨r1, 0, none⟩ (.int .i64 e)).setCell ⟨r1, 1, none⟩ (.int .i64 q))) := fun e => (HE.out.setNew hrw _).setNew hrw _
    go_wp2
    refine bodyPost_ret (v := .agg #[.int .i64 2, .int .i64 q]) (by simp [results, Try.results42, go_sem, d0, d1]) rfl ⟨rfl, (HF 2).out⟩
end Go.Proofs.Qxb6500778a
