import Derived.Test.Qxb6500774aLx7
namespace Go.Proofs.Qxb6500774a
open Go.RowKit
variable {R : Nat → Option Value}

theorem okb_low {c : Int} (h : okb c) : (decide ((97 : Int) ≤ c)) = false := by
  unfold okb at h
  simp only [decide_eq_false_iff_not]
  omega
theorem Try.info5 : (Try.prog.info? 5).map (fun i => (i.zero, i.size, i.bytes)) = some (some (.int .u8 0), 1, 1) := by kernel_rfl
theorem byP_at {s : List Int} {i : Nat} {c : Int} (h : s[i]? = some c) : byP s (i : Int) = c := by
  have := (List.getElem?_eq_some_iff.1 h).1
  unfold byP
  rw [if_pos (by omega), Int.toNat_natCast, h, Option.getD_some]
theorem wlen_le : ∀ (s : List Int), wlen s ≤ s.length
  | [] => Nat.le_refl _
  | c :: r => by
    have := wlen_le r
    rw [wlen, List.length_cons]
    split <;> omega
theorem Lx.other {w : World} {p : Nat} {a : Option Addr} {cp : Nat} {s : List Int} {o : Nat} {l : Int} {b : Nat} (h : Lx R w p a cp s o l b) {g : Nat} (hg : p ≠ g) (ha : ∀ b off, a = some ⟨b, off, none⟩ → b ≠ g) (j : Nat) (v : Value) : Lx R (w.setCell ⟨g, j, none⟩ v) p a cp s o l b :=
  have e := (Ex.refl (fun k => k = g) w).set (j := j) rfl v
  have hp : p < w.heap.size := World.block_lt_of_cell? _ _ h.c0
  ⟨e.cell hg h.c0, e.cell hg h.c1, e.cell hg h.c2, e.cell hg h.c3, (e.frozen hg hp).trans h.f1, (e.frozen hg hp).trans h.f2, (e.frozen hg hp).trans h.f3, fun i c hc => by
    obtain ⟨b, off, e', hx⟩ := h.src i c hc
    exact ⟨b, off, e', e.cell (ha b off e') hx⟩, h.ap, fun j hj => (e.cell_eq hg hp j).trans (h.hi j hj), fun j => (e.frozen hg hp).trans (h.fz j)⟩
set_option maxRecDepth 100000 in
set_option maxHeartbeats 4000000 in
/-- lexer.run -/
theorem run_any (w : World) (p : Nat) (a : Option Addr) (cp : Nat) (s : List Int) (o : Nat) (h : Lx R w p a cp s o 1 0) (hs : Sane s) (ho : o ≤ s.length) (hl : s.length ≤ 1099511627776) :
    Calls Try.prog 88 #[.pointer (some ⟨p, 0, none⟩)] w fun e w' => ∃ n, n = wlen (s.drop o) ∧ ∃ g, e = .returned (.slice (some ⟨g, 0, none⟩) n n) ∧ Ex (fun k => k = p) w w' ∧ Lx R w' p a cp s (o + n) 1 0 ∧ SrcAt w' (some ⟨g, 0, none⟩) ((s.drop o).take n) ∧ w.heap.size ≤ g := by
  have HX := hide h
  have HS := hide hs
  have c1 := h.c1
  clear h hs
  go_enter Try.func88, Try.ntmps88
  go_wp2
  clear c1
  go_loopw [47] (fun _ wr => ∃ (k : Nat), Hid (k ≤ s.length ∧ k + wlen (s.drop k) = o + wlen (s.drop o)) ∧ Hid (Ex (fun k => k = p) w wr) ∧ Hid (Lx R wr p a cp s k 1 0)) (fun _ wr => s.length - offOf wr p)
  case atStart => exact ⟨o, ⟨ho, rfl⟩, Ex.refl _ _, HX.out⟩
  case round =>
    clear HX
    obtain ⟨k, HK, HE, HX⟩ := hrel
    obtain ⟨hk, hkb⟩ := HK.out
    have HOF := hide HX.out.offOf
    have c0 := HX.out.c0
    have c1 := HX.out.c1
    have HIF : Hid (k < s.length ∧ (∃ c, s[k]? = some c ∧ (ltP c || dgP c) = true) ∨ (k = o + wlen (s.drop o))) := by
      by_cases hlt : k < s.length
      · obtain ⟨c, hc⟩ : ∃ c, s[k]? = some c := ⟨_, List.getElem?_eq_getElem hlt⟩
        cases hq : (ltP c || dgP c)
        · right
          have : wlen (s.drop k) = 0 := by rw [drop_cons hc, wlen, if_neg (by simp [hq])]
          omega
        · exact .inl ⟨hlt, c, hc, hq⟩
      · right
        have : wlen (s.drop k) = 0 := by rw [List.drop_eq_nil_of_le (by omega), wlen]
        omega
    go_upto_region 2 with fail
    obtain ⟨b, hb⟩ : ∃ b, (decide ((k : Int) < (s.length : Int)) && (ltP (byP s k) || dgP (byP s k))) = b := ⟨_, rfl⟩
    have HBB := hide hb
    clear hb
    go_cut [46] (fun s46 wx => s46 = .bool b ∧ ∃ nq, wx = wr.drewN nq)
    case first =>
      by_cases hlt : k < s.length
      · have d1 : decide ((k : Int) < (s.length : Int)) = true := by simp; omega
        have hki : (k : Int) < (s.length : Int) := by omega
        obtain ⟨c, hc⟩ : ∃ c, s[k]? = some c := ⟨_, List.getElem?_eq_getElem hlt⟩
        obtain ⟨g, off, ha, cx⟩ := HX.out.src k c hc
        subst ha
        have hby : byP s k = c := by unfold byP; rw [if_pos hki]; simp [hc]
        rw [hby, d1, Bool.true_and] at HBB
        have HL : ∀ m, Hid (Calls Try.prog 89 #[.int .u8 c] (wr.drewN m) fun e w' => e = .returned (.bool (ltP c)) ∧ w' = wr.drewN m) := fun m => isLetter_any _ c
        have HG : ∀ m, Hid (Calls Try.prog 86 #[.int .u8 c] (wr.drewN m) fun e w' => e = .returned (.bool (dgP c)) ∧ w' = wr.drewN m) := fun m => isDigit_any _ c
        obtain ⟨x, hx⟩ : ∃ x, ltP c = x := ⟨_, rfl⟩
        obtain ⟨y, hy⟩ : ∃ y, dgP c = y := ⟨_, rfl⟩
        rw [hx] at HL HBB
        rw [hy] at HG HBB
        clear hc hx hy hby HIF
        cases x
        · have hyb : y = b := by simpa using HBB.out
          subst hyb
          clear HBB
          go_quiet (first | (go_at_call 89; refine Calls.quiet_of_same (HL _).out) | (go_at_call 86; refine Calls.quiet_of_same (HG _).out))
          go_wp2
          go_meet
          case rel => exact ⟨rfl, _, rfl⟩
        · have hyb : true = b := by simpa using HBB.out
          subst hyb
          clear HBB
          go_quiet (first | (go_at_call 89; refine Calls.quiet_of_same (HL _).out) | (go_at_call 86; refine Calls.quiet_of_same (HG _).out))
          go_wp2
          go_meet
          case rel => exact ⟨rfl, _, rfl⟩
      · have d1 : decide ((k : Int) < (s.length : Int)) = false := by simp; omega
        have hbf : b = false := by have := HBB.out; rw [d1, Bool.false_and] at this; exact this.symm
        subst hbf
        clear HBB
        go_quiet (fail)
        go_wp2
        go_meet
        case rel => exact ⟨rfl, _, rfl⟩
    obtain ⟨rfl, nq, rfl⟩ := hcut
    have HX2 := hide (HX.out.below (below_dn wr nq wr.heap.size))
    have HE2 : Hid (Ex (fun k => k = p) w (wr.drewN nq)) := HE.out.drewN nq
    generalize wr.drewN nq = w2 at *
    clear HX HE c0 c1
    cases b
    · have hkw : k = o + wlen (s.drop o) := by
        rcases HIF.out with ⟨hlt, c, hc, hq⟩ | h
        · exfalso
          have := HBB.out
          have hby : byP s k = c := by exact byP_at hc
          rw [hby, hq, Bool.and_true] at this
          simp at this
          omega
        · exact h
      clear HIF HBB HOF HK
      have c1 := HX2.out.c1
      obtain ⟨n, hn⟩ : ∃ n, wlen (s.drop o) = n := ⟨_, rfl⟩
      have hn2 : n ≤ s.length - o := by rw [← hn]; have := wlen_le (s.drop o); rwa [List.length_drop] at this
      have HN := hide hn
      rw [hn] at hkw
      subst hkw
      clear hkb hn
      have hwn : IntKind.i64.wrap (((o + n : Nat) : Int) - (o : Int)) = (n : Int) := by rw [IntKind.wrap_i64]; omega
      have hwq : IntKind.i64.wrap ((o : Int) + (n : Int) - (o : Int)) = (n : Int) := by rw [IntKind.wrap_i64]; omega
      have hzq : (o : Int) + (n : Int) - (o : Int) = (n : Int) := by omega
      have hmk := run_make_row' (P := Try.prog) 32 5 (.int .u8 0) 1 Try.underlying32 Try.info5 rfl .i64 .i64 n (by omega) (by omega)
      go_wp2
      clear hmk hwn hwq hzq c1
      have HX3 := hide (HX2.out.below (be1 w2 (.cells (madeCells #[.int .u8 0] n) 5)))
      have HE3 : Hid (Ex (fun k => k = p) w (w2.alloc (.cells (madeCells #[.int .u8 0] n) 5))) := HE2.out.alloc _
      have HR3 : Hid ((w2.alloc (.cells (madeCells #[.int .u8 0] n) 5)).rowIs w2.heap.size 5 n (fun j => .int .u8 (if j < 0 then byP s ((o + j : Nat) : Int) else 0))) := (World.rowIs_made _ _ _ _).congr fun i _ => by simp
      have hpg : p < w2.heap.size := World.block_lt_of_cell? _ _ HX2.out.c0
      have HG : Hid (w.heap.size ≤ w2.heap.size) := HE2.out.size
      have HA : Hid (∀ (i : Nat) c, s[i]? = some c → ∀ b off, a = some ⟨b, off, none⟩ → b < w2.heap.size) := fun i c hc b off e => by
        obtain ⟨b', off', e', hx⟩ := HX2.out.src i c hc
        rw [e] at e'
        injection e' with e'
        injection e' with e1
        subst e1
        exact World.block_lt_of_cell? _ _ hx
      generalize w2.alloc (.cells (madeCells #[.int .u8 0] n) 5) = w3 at *
      generalize w2.heap.size = g at *
      clear HX2 HE2
      go_loopw [63] (fun s63 wr => ∃ (i : Nat), i ≤ n ∧ s63 = .int .i64 i ∧ Hid (wr.rowIs g 5 n (fun j => .int .u8 (if j < i then byP s ((o + j : Nat) : Int) else 0))) ∧ Hid (Ex (fun k => k = p) w wr) ∧ Hid (Lx R wr p a cp s (o + n) 1 0)) (fun s63 _ => n - (intOf s63).toNat)
      case atStart => exact ⟨0, Nat.zero_le _, rfl, HR3, HE3, HX3⟩
      case round =>
        clear HR3 HE3 HX3
        obtain ⟨i, hi, rfl, HR, HE, HX⟩ := hrel
        by_cases hlt : i < n
        · have d1 : decide ((i : Int) < (n : Int)) = true := by simp; omega
          have hin : (i : Int) < (n : Int) := by omega
          have c0 := HX.out.c0
          obtain ⟨c, hc⟩ : ∃ c, s[o + i]? = some c := ⟨_, List.getElem?_eq_getElem (by omega)⟩
          have hby : byP s ((o + i : Nat) : Int) = c := by exact byP_at hc
          obtain ⟨ag, off, ha, cx⟩ := HX.out.src (o + i) c hc
          have hok := okb_low (HS.out _ _ hc)
          have hag := HA.out _ _ hc ag off ha
          subst ha
          have hci := HR.out.cell hlt
          have hfi := HR.out.frozen i
          have hwo : IntKind.i64.wrap ((o : Int) + (i : Int)) = ((o + i : Nat) : Int) := by rw [IntKind.wrap_i64]; omega
          have hoi : (o : Int) + (i : Int) < (s.length : Int) := by omega
          have hwi : IntKind.i64.wrap ((i : Int) + 1) = ((i + 1 : Nat) : Int) := by rw [IntKind.wrap_i64]; omega
          have hR2 := (HR.out.set i (.int .u8 c)).congr (g := fun j => .int .u8 (if j < i + 1 then byP s ((o + j : Nat) : Int) else 0)) fun j _ => by
            by_cases e : j = i
            · subst e
              rw [if_pos rfl, if_pos (by omega), hby]
            · rw [if_neg e]
              by_cases e2 : j < i
              · rw [if_pos e2, if_pos (by omega)]
              · rw [if_neg e2, if_neg (by omega)]
          have HR2 := hide hR2
          have HE2 : Hid (Ex (fun k => k = p) w (wr.setCell ⟨g, i, none⟩ (.int .u8 c))) := HE.out.setNew HG.out _
          have HX2 : Hid (Lx R (wr.setCell ⟨g, i, none⟩ (.int .u8 c)) p (some ⟨ag, off, none⟩) cp s (o + n) 1 0) := HX.out.other (by omega) (fun b off e => by injection e with e; injection e with e1; omega) _ _
          clear HR HE HX hR2 hby hc hag
          go_wp2
          go_roundw
          case rel => exact ⟨i + 1, by omega, by go_num, HR2, HE2, HX2⟩
          case measure => simp [intOf]; omega
        · obtain rfl : i = n := by omega
          have d1 : decide ((i : Int) < (i : Int)) = false := by simp
          go_wp2
          go_ret
          refine ⟨i, HN.out.symm, g, rfl, HE.out, HX.out, fun j c hc => ?_, HG.out⟩
          rw [List.getElem?_take] at hc
          split at hc
          case isFalse => cases hc
          case isTrue hj =>
            rw [List.getElem?_drop] at hc
            have := HR.out.cell hj
            rw [if_pos hj] at this
            refine ⟨g, 0, rfl, ?_⟩
            rw [Nat.zero_add, this]
            have : byP s ((o + j : Nat) : Int) = c := by exact byP_at hc
            rw [this]
    · obtain ⟨c, hc, hq⟩ : ∃ c, s[k]? = some c ∧ (ltP c || dgP c) = true := by
        rcases HIF.out with ⟨hlt, c, hc, hq⟩ | h
        · exact ⟨c, hc, hq⟩
        · exfalso
          have hb := HBB.out
          simp only [Bool.and_eq_true, decide_eq_true_eq] at hb
          obtain ⟨hlt, hb⟩ := hb
          obtain ⟨c, hc⟩ : ∃ c, s[k]? = some c := ⟨_, List.getElem?_eq_getElem (by omega)⟩
          have hby : byP s k = c := by exact byP_at hc
          rw [hby] at hb
          rw [drop_cons hc, wlen, if_pos hb] at hkb
          omega
      have hlt : k < s.length := (List.getElem?_eq_some_iff.1 hc).1
      have HK2 : Hid (k + 1 ≤ s.length ∧ k + 1 + wlen (s.drop (k + 1)) = o + wlen (s.drop o)) := ⟨by omega, by rw [← hkb, drop_cons hc, wlen, if_pos hq]; omega⟩
      clear HIF HBB HK hkb hc hq
      have c1 := HX2.out.c1
      have f1 := HX2.out.f1
      have hw1 : IntKind.i64.wrap ((k : Int) + 1) = ((k + 1 : Nat) : Int) := by rw [IntKind.wrap_i64]; omega
      have hx1 := HX2.out.off (k + 1)
      have HE1 : Hid (Ex (fun k => k = p) w (w2.setCell ⟨p, 1, none⟩ (.int .i64 ((k + 1 : Nat) : Int)))) := HE2.out.set rfl _
      rw [show ((k + 1 : Nat) : Int) = (k : Int) + 1 by omega] at hx1 HE1
      have HX1 := hide hx1
      clear hx1 HX2 HE2
      go_wp2
      go_roundw
      case rel => exact ⟨k + 1, HK2, HE1, HX1⟩
      case measure => rw [HX1.out.offOf, HOF.out]; omega
end Go.Proofs.Qxb6500774a
