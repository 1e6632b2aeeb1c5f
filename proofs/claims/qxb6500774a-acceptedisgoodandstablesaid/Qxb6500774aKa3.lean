import Derived.Test.Qxb6500774aKa0
namespace Go.Proofs.Qxb6500774a
open Go.RowKit
set_option linter.unusedVariables false
set_option linter.unusedSimpArgs false
variable {R : Nat → Option Value}
set_option linter.unusedSimpArgs false in
set_option linter.unusedVariables false in
set_option maxRecDepth 100000 in
set_option maxHeartbeats 32000000 in
theorem sk_cmt (w wr : World) (p : Nat) (a : Option Addr) (cp : Nat) (s : List Int) (k : Pl) (RR : Bool × Pl) (hl : s.length ≤ 1048576) (HR : Hid (skP s k = RR)) (HQ : Hid (PlOk s k)) (HE : Hid (Ex (fun k => k = p) w wr)) (HX : Hid (LX R wr p a cp s k)) (hlt0 : k.o < s.length) (hnb : ¬ (byP s k.o = 32 ∨ byP s k.o = 9 ∨ byP s k.o = 13 ∨ byP s k.o = 10)) (hns : ¬ (byP s k.o = 47 ∧ byP s ((k.o + 1 : Nat) : Int) = 47)) (hcase : (byP s k.o = 40 ∧ byP s ((k.o + 1 : Nat) : Int) = 42)) (KK : Act → World → Prop) (u2 u3 u4 u5 u6 u7 u8 u9 u10 u11 u12 u13 u14 u15 u16 u17 u18 u19 u20 u21 u22 u23 u24 u25 u26 u27 u28 u29 u30 u31 u32 u33 u34 u35 u36 u37 u38 u39 u40 u41 u42 u43 u44 u45 u46 u47 u48 u49 u50 u51 u52 u53 u54 u55 u56 u57 u58 u59 u60 u61 u62 u63 u64 u65 u66 u67 u68 u69 u70 u71 u72 u73 u74 u75 u76 u77 u78 u79 u80 u81 u82 u83 u84 u85 u86 u87 u88 u89 u90 u91 u92 u93 u94 u95 u96 u97 u98 u99 u100 u101 u102 u103 u104 u105 u106 u107 u108 u109 u110 u111 u112 u113 u114 u115 u116 u117 u118 u119 u120 u121 u122 u123 u124 u125 u126 u127 u128 u129 u130 u131 u132 u133 u134 u135 u136 u137 u138 u139 u140 u141 u142 u143 : Value) :
    Code.wp Try.prog ob85 (Exit.then (fun a' w' => (∃ (u2 u3 u4 u5 u6 u7 u8 u9 u10 u11 u12 u13 u14 u15 u16 u17 u18 u19 u20 u21 u22 u23 u24 u25 u26 u27 u28 u29 u30 u31 u32 u33 u34 u35 u36 u37 u38 u39 u40 u41 u42 u43 u44 u45 u46 u47 u48 u49 u50 u51 u52 u53 u54 u55 u56 u57 u58 u59 u60 u61 u62 u63 u64 u65 u66 u67 u68 u69 u70 u71 u72 u73 u74 u75 u76 u77 u78 u79 u80 u81 u82 u83 u84 u85 u86 u87 u88 u89 u90 u91 u92 u93 u94 u95 u96 u97 u98 u99 u100 u101 u102 u103 u104 u105 u106 u107 u108 u109 u110 u111 u112 u113 u114 u115 u116 u117 u118 u119 u120 u121 u122 u123 u124 u125 u126 u127 u128 u129 u130 u131 u132 u133 u134 u135 u136 u137 u138 u139 u140 u141 u142 u143 : Value), (∃ (k : Pl), Hid (skP s k = RR) ∧ Hid (PlOk s k) ∧ Hid (Ex (fun k => k = p) w w') ∧ Hid (LX R w' p a cp s k)) ∧ a' = ⟨#[Value.pointer (some ⟨p, 0, none⟩), undef, u2, u3, u4, u5, u6, u7, u8, u9, u10, u11, u12, u13, u14, u15, u16, u17, u18, u19, u20, u21, u22, u23, u24, u25, u26, u27, u28, u29, u30, u31, u32, u33, u34, u35, u36, u37, u38, u39, u40, u41, u42, u43, u44, u45, u46, u47, u48, u49, u50, u51, u52, u53, u54, u55, u56, u57, u58, u59, u60, u61, u62, u63, u64, u65, u66, u67, u68, u69, u70, u71, u72, u73, u74, u75, u76, u77, u78, u79, u80, u81, u82, u83, u84, u85, u86, u87, u88, u89, u90, u91, u92, u93, u94, u95, u96, u97, u98, u99, u100, u101, u102, u103, u104, u105, u106, u107, u108, u109, u110, u111, u112, u113, u114, u115, u116, u117, u118, u119, u120, u121, u122, u123, u124, u125, u126, u127, u128, u129, u130, u131, u132, u133, u134, u135, u136, u137, u138, u139, u140, u141, u142, u143], []⟩) ∧ s.length - offOf w' p < s.length - offOf wr p) (Exit.inBlock 0 (Exit.then KK (bodyPost Try.prog Try.f85 (SkPost R w p a cp s RR))))) ⟨#[Value.pointer (some ⟨p, 0, none⟩), undef, u2, u3, u4, u5, u6, u7, u8, u9, u10, u11, u12, u13, u14, u15, u16, u17, u18, u19, u20, u21, u22, u23, u24, u25, u26, u27, u28, u29, u30, u31, u32, u33, u34, u35, u36, u37, u38, u39, u40, u41, u42, u43, u44, u45, u46, u47, u48, u49, u50, u51, u52, u53, u54, u55, u56, u57, u58, u59, u60, u61, u62, u63, u64, u65, u66, u67, u68, u69, u70, u71, u72, u73, u74, u75, u76, u77, u78, u79, u80, u81, u82, u83, u84, u85, u86, u87, u88, u89, u90, u91, u92, u93, u94, u95, u96, u97, u98, u99, u100, u101, u102, u103, u104, u105, u106, u107, u108, u109, u110, u111, u112, u113, u114, u115, u116, u117, u118, u119, u120, u121, u122, u123, u124, u125, u126, u127, u128, u129, u130, u131, u132, u133, u134, u135, u136, u137, u138, u139, u140, u141, u142, u143], []⟩ wr := by
  conv => arg 2; whnf
  have HOF := hide HX.out.offOf
  have hko := HQ.out.o
  have c0 := HX.out.c0
  have c1 := HX.out.c1
  obtain ⟨ko, hkoe⟩ : ∃ x, k.o = x := ⟨_, rfl⟩
  have HKO := hide hkoe
  rw [hkoe] at hko c1 HOF
  have hlt : ko < s.length := by rw [← HKO.out]; exact hlt0
  have d1 : decide ((ko : Int) < (s.length : Int)) = true := by simp; omega
  have hki : (ko : Int) < (s.length : Int) := by omega
  go_wp2_with fail
  go_quiet (fail)
  have HX2 := hide (HX.out.below (below_dn wr nq wr.heap.size))
  have HE2 : Hid (Ex (fun k => k = p) w (wr.drewN nq)) := HE.out.drewN nq
  generalize wr.drewN nq = w2 at *
  clear HX HE c0 c1 d1
  have c0 := HX2.out.c0
  have c1 := HX2.out.c1
  rw [hkoe] at c1
  obtain ⟨c, hc⟩ : ∃ c, s[ko]? = some c := ⟨_, List.getElem?_eq_getElem hlt⟩
  obtain ⟨g, off, ha, cx⟩ := HX2.out.src ko c hc
  subst ha
  have HC : Hid (byP s (ko : Int) = c) := byP_at hc
  have HC2 := hide hc
  have hw1 : IntKind.i64.wrap ((ko : Int) + 1) = ((ko + 1 : Nat) : Int) := by rw [IntKind.wrap_i64]; omega
  obtain ⟨d, hd⟩ : ∃ d, byP s ((ko + 1 : Nat) : Int) = d := ⟨_, rfl⟩
  have HD := hide hd
  have HB : ∀ m, Hid (Calls Try.prog 91 #[.pointer (some ⟨p, 0, none⟩), .int .i64 ((ko + 1 : Nat) : Int)] (w2.drewN m) fun e w' => e = .returned (.int .u8 d) ∧ w' = w2.drewN m) := fun m => by
    have hx := HX2.out.below (below_dn w2 m w2.heap.size)
    have := byteAt_any _ _ _ _ s (ko + 1) hx.src hx.c0
    rw [hd] at this
    exact this
  clear hd hc hkoe
  go_wp2_with fail
  go_quiet (first | (go_at_call 91; refine Calls.quiet_of_same (HB _).out))
  have HX3 := hide (HX2.out.below (below_dn w2 nq w2.heap.size))
  have HE3 : Hid (Ex (fun k => k = p) w (w2.drewN nq)) := HE2.out.drewN nq
  generalize w2.drewN nq = w3 at *
  clear HX2 HE2 c0 c1 cx HB hw1
  have hb := hnb
  clear hnb
  rw [HKO.out, HC.out] at hb
  have n32 : (c == 32) = false := by simp; omega
  have n9 : (c == 9) = false := by simp; omega
  have n13 : (c == 13) = false := by simp; omega
  have n10 : (c == 10) = false := by simp; omega
  have hs := hns
  clear hns
  rw [HKO.out, HC.out, HD.out] at hs
  have hp := hcase
  clear hcase
  rw [HKO.out, HC.out, HD.out] at hp
  have c47 : (c == 47) = false := by simp; omega
  have c40 : (c == 40) = true := by simp; omega
  have e42 : (d == 42) = true := by simp; omega
  have h1n : ko + 1 < s.length := by
    rcases Nat.lt_or_ge (ko + 1) s.length with z | z
    · exact z
    · have h0 := HD.out
      unfold byP at h0
      rw [if_neg (by omega)] at h0
      omega
  have HCD : Hid (byP s ((k.o : Nat) : Int) = 40 ∧ byP s ((k.o + 1 : Nat) : Int) = 42) := by rw [HKO.out, HC.out, HD.out]; exact hp
  have hw2 : IntKind.i64.wrap ((ko : Int) + 2) = ((ko + 2 : Nat) : Int) := by rw [IntKind.wrap_i64]; omega
  have HX3' : Hid (LX R w3 p (some ⟨g, off, none⟩) cp s ⟨ko, k.l, k.b⟩) := by rw [← HKO.out]; exact HX3.out
  have c1 := HX3'.out.c1
  dsimp only at c1
  clear hb hs hp
  go_upto_region 10 with fail
  clear n32 n9 n13 n10 c47 c40 e42 hw2 c1
  go_loopw [5] (fun s5 wr => ∃ (i : Nat), s5 = .int .i64 i ∧ wr = w3 ∧ Hid (ko + 2 ≤ i ∧ i ≤ s.length ∧ cmtK s (s.length - i) i = cmtK s (s.length - (ko + 2)) (ko + 2))) (fun s5 _ => s.length - (intOf s5).toNat)
  case atStart => exact ⟨ko + 2, rfl, rfl, ⟨Nat.le_refl _, by omega, rfl⟩⟩
  case round =>
    obtain ⟨i, rfl, rfl, HI⟩ := hrel
    have hi := HI.out
    have c0 := HX3'.out.c0
    try dsimp only at c0
    have hw1 : IntKind.i64.wrap ((i : Int) + 1) = ((i + 1 : Nat) : Int) := by rw [IntKind.wrap_i64]; omega
    have END : ∀ (hz : ¬ (i + 1 < s.length ∧ ¬ (byP s i = 42 ∧ byP s ((i + 1 : Nat) : Int) = 41))), cmtK s (s.length - (ko + 2)) (ko + 2) = i := fun hz => by
      rw [← hi.2.2]
      exact cmtK_stop s hz _
    by_cases hin : i + 1 < s.length
    · have d1 : decide (((i + 1 : Nat) : Int) < (s.length : Int)) = true := by simp; omega
      have d1b : ((i + 1 : Nat) : Int) < (s.length : Int) := by omega
      have hii : (i : Int) < (s.length : Int) := by omega
      obtain ⟨ci, hci⟩ : ∃ c, s[i]? = some c := ⟨_, List.getElem?_eq_getElem (by omega)⟩
      obtain ⟨di, hdi⟩ : ∃ c, s[i + 1]? = some c := ⟨_, List.getElem?_eq_getElem hin⟩
      have HCI : Hid (byP s (i : Int) = ci) := byP_at hci
      have HDI : Hid (byP s ((i + 1 : Nat) : Int) = di) := byP_at hdi
      obtain ⟨g1, off1, ha1, cx⟩ := HX3'.out.src i ci hci
      injection ha1 with ha1
      injection ha1 with e1 e2
      subst e1 e2
      obtain ⟨g2, off2, ha2, dx⟩ := HX3'.out.src (i + 1) di hdi
      injection ha2 with ha2
      injection ha2 with e1 e2
      subst e1 e2
      clear hci hdi
      by_cases hz : ci = 42 ∧ di = 41
      · have f1 : (ci != 42) = false := by simp; omega
        have f2 : (di != 41) = false := by simp; omega
        have f1b : (ci == 42) = true := by simp; omega
        have f2b : (di == 41) = true := by simp; omega
        have HEND := hide (END (fun z => z.2 (by rw [HCI.out, HDI.out]; exact hz)))
        have g1 : decide ((s.length : Int) ≤ ((i + 1 : Nat) : Int)) = false := by simp; omega
        have g1b : ¬ (s.length : Int) ≤ ((i + 1 : Nat) : Int) := by omega
        have c1 := HX3'.out.c1
        dsimp only at c1
        have hw3 : IntKind.i64.wrap ((i : Int) + 2) = ((i + 2 : Nat) : Int) := by rw [IntKind.wrap_i64]; omega
        have hw4 : IntKind.i64.wrap (((i + 2 : Nat) : Int) - (ko : Int)) = ((i + 2 - ko : Nat) : Int) := by rw [IntKind.wrap_i64]; omega
        have HR1 : Hid (skP s (stpQ s (i + 2 - ko) k) = RR) := by
          show _ = _
          rw [← HR.out, skP_cmt (by rw [HKO.out]; exact hlt) HCD.out (by rw [HKO.out, HEND.out]; omega), HKO.out, HEND.out]
        clear END hz HR HI
        have hsub : (i : Int) + 2 - (ko : Int) = ((i + 2 - ko : Nat) : Int) := by omega
        have HST := hide (step_any _ p _ cp s k.o k.l k.b (i + 2 - ko) HX3.out (by rw [HKO.out]; omega) (by have := HQ.out.l; have := HKO.out; omega) (by omega))
        rw [← hsub] at HST
        clear hsub
        go_wp2_with (go_at_call 103; refine HST.out.mono ?_)
        rintro e wq rfl hex o' l' b' hst hlx
        have HX4 : Hid (LX R wq p (some ⟨g, off, none⟩) cp s (stpQ s (i + 2 - ko) k)) := by unfold stpQ; rw [hst]; exact hlx
        have HE4 : Hid (Ex (fun k => k = p) w wq) := HE3.out.trans hex
        clear hex hst hlx HX3 HE3
        go_wp2
        go_roundw
        case rel => exact ⟨stpQ s (i + 2 - ko) k, HR1, HQ.out.stp (by rw [HKO.out]; omega), HE4, HX4⟩
        case measure => (rw [HX4.out.offOf, HOF.out, stpQ_o, HKO.out]; omega)
      · by_cases hz1 : ci = 42
        · have f1 : (ci != 42) = false := by simp; omega
          have f1b : (ci == 42) = true := by simp; omega
          have f2 : (di != 41) = true := by simp; omega
          have f2b : (di == 41) = false := by simp; omega
          have HI2 : Hid (ko + 2 ≤ i + 1 ∧ i + 1 ≤ s.length ∧ cmtK s (s.length - (i + 1)) (i + 1) = cmtK s (s.length - (ko + 2)) (ko + 2)) := ⟨by omega, by omega, by rw [← cmtK_step s hin (fun z => hz (by rw [HCI.out, HDI.out] at z; exact z))]; exact hi.2.2⟩
          clear END
          go_wp2
          go_roundw
          case rel => exact ⟨i + 1, by go_num, by first | rfl | trivial, HI2⟩
          case measure => exact meas_lt (i := i) (by go_num) rfl (by omega)
        · have f1 : (ci != 42) = true := by simp; omega
          have f1b : (ci == 42) = false := by simp; omega
          have HI2 : Hid (ko + 2 ≤ i + 1 ∧ i + 1 ≤ s.length ∧ cmtK s (s.length - (i + 1)) (i + 1) = cmtK s (s.length - (ko + 2)) (ko + 2)) := ⟨by omega, by omega, by rw [← cmtK_step s hin (fun z => hz (by rw [HCI.out, HDI.out] at z; exact z))]; exact hi.2.2⟩
          clear END
          go_wp2
          go_roundw
          case rel => exact ⟨i + 1, by go_num, by first | rfl | trivial, HI2⟩
          case measure => exact meas_lt (i := i) (by go_num) rfl (by omega)
    · have d1 : decide (((i + 1 : Nat) : Int) < (s.length : Int)) = false := by simp; omega
      have d1b : ¬ ((i + 1 : Nat) : Int) < (s.length : Int) := by omega
      have g1 : decide ((s.length : Int) ≤ ((i + 1 : Nat) : Int)) = true := by simp; omega
      have HEND := hide (END (fun z => hin z.1))
      have HR1 : Hid ((false, k) = RR) := by
        show _ = _
        rw [← HR.out]
        exact (skP_open (by rw [HKO.out]; exact hlt) HCD.out (by rw [HKO.out, HEND.out]; omega)).symm
      clear END HR HI
      go_wp2_with (with_reducible refine bodyPost_ret (v := .bool false) ?hr ?hd ?hp)
      case hr => simp [results, Try.results85, go_sem]
      case hd => rfl
      case hp => rw [← HR1.out]; exact ⟨rfl, HE3.out, HX3.out, HQ.out⟩
end Go.Proofs.Qxb6500774a
