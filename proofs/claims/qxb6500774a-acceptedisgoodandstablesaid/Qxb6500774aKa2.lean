import Derived.Test.Qxb6500774aKa0
namespace Go.Proofs.Qxb6500774a
open Go.RowKit
set_option linter.unusedVariables false
set_option linter.unusedSimpArgs false
variable {R : Nat → Option Value}
set_option linter.unusedSimpArgs false in
set_option linter.unusedVariables false in
set_option maxRecDepth 100000 in
set_option maxHeartbeats 32000000 in
theorem sk_line (w wr : World) (p : Nat) (a : Option Addr) (cp : Nat) (s : List Int) (k : Pl) (RR : Bool × Pl) (hl : s.length ≤ 1048576) (HR : Hid (skP s k = RR)) (HQ : Hid (PlOk s k)) (HE : Hid (Ex (fun k => k = p) w wr)) (HX : Hid (LX R wr p a cp s k)) (hlt0 : k.o < s.length) (hnb : ¬ (byP s k.o = 32 ∨ byP s k.o = 9 ∨ byP s k.o = 13 ∨ byP s k.o = 10)) (hcase : (byP s k.o = 47 ∧ byP s ((k.o + 1 : Nat) : Int) = 47)) (KK : Act → World → Prop) (u2 u3 u4 u5 u6 u7 u8 u9 u10 u11 u12 u13 u14 u15 u16 u17 u18 u19 u20 u21 u22 u23 u24 u25 u26 u27 u28 u29 u30 u31 u32 u33 u34 u35 u36 u37 u38 u39 u40 u41 u42 u43 u44 u45 u46 u47 u48 u49 u50 u51 u52 u53 u54 u55 u56 u57 u58 u59 u60 u61 u62 u63 u64 u65 u66 u67 u68 u69 u70 u71 u72 u73 u74 u75 u76 u77 u78 u79 u80 u81 u82 u83 u84 u85 u86 u87 u88 u89 u90 u91 u92 u93 u94 u95 u96 u97 u98 u99 u100 u101 u102 u103 u104 u105 u106 u107 u108 u109 u110 u111 u112 u113 u114 u115 u116 u117 u118 u119 u120 u121 u122 u123 u124 u125 u126 u127 u128 u129 u130 u131 u132 u133 u134 u135 u136 u137 u138 u139 u140 u141 u142 u143 : Value) :
    Code.wp Try.prog ob85 (Exit.then (fun a' w' => (∃ (u2 u3 u4 u5 u6 u7 u8 u9 u10 u11 u12 u13 u14 u15 u16 u17 u18 u19 u20 u21 u22 u23 u24 u25 u26 u27 u28 u29 u30 u31 u32 u33 u34 u35 u36 u37 u38 u39 u40 u41 u42 u43 u44 u45 u46 u47 u48 u49 u50 u51 u52 u53 u54 u55 u56 u57 u58 u59 u60 u61 u62 u63 u64 u65 u66 u67 u68 u69 u70 u71 u72 u73 u74 u75 u76 u77 u78 u79 u80 u81 u82 u83 u84 u85 u86 u87 u88 u89 u90 u91 u92 u93 u94 u95 u96 u97 u98 u99 u100 u101 u102 u103 u104 u105 u106 u107 u108 u109 u110 u111 u112 u113 u114 u115 u116 u117 u118 u119 u120 u121 u122 u123 u124 u125 u126 u127 u128 u129 u130 u131 u132 u133 u134 u135 u136 u137 u138 u139 u140 u141 u142 u143 : Value), (∃ (k : Pl), Hid (skP s k = RR) ∧ Hid (PlOk s k) ∧ Hid (Ex (fun k => k = p) w w') ∧ Hid (LX R w' p a cp s k)) ∧ a' = ⟨#[Value.pointer (some ⟨p, 0, none⟩), undef, u2, u3, u4, u5, u6, u7, u8, u9, u10, u11, u12, u13, u14, u15, u16, u17, u18, u19, u20, u21, u22, u23, u24, u25, u26, u27, u28, u29, u30, u31, u32, u33, u34, u35, u36, u37, u38, u39, u40, u41, u42, u43, u44, u45, u46, u47, u48, u49, u50, u51, u52, u53, u54, u55, u56, u57, u58, u59, u60, u61, u62, u63, u64, u65, u66, u67, u68, u69, u70, u71, u72, u73, u74, u75, u76, u77, u78, u79, u80, u81, u82, u83, u84, u85, u86, u87, u88, u89, u90, u91, u92, u93, u94, u95, u96, u97, u98, u99, u100, u101, u102, u103, u104, u105, u106, u107, u108, u109, u110, u111, u112, u113, u114, u115, u116, u117, u118, u119, u120, u121, u122, u123, u124, u125, u126, u127, u128, u129, u130, u131, u132, u133, u134, u135, u136, u137, u138, u139, u140, u141, u142, u143], []⟩) ∧ s.length - offOf w' p < s.length - offOf wr p) (Exit.inBlock 0 (Exit.then KK (bodyPost Try.prog Try.f85 (SkPost R w p a cp s RR))))) ⟨#[Value.pointer (some ⟨p, 0, none⟩), undef, u2, u3, u4, u5, u6, u7, u8, u9, u10, u11, u12, u13, u14, u15, u16, u17, u18, u19, u20, u21, u22, u23, u24, u25, u26, u27, u28, u29, u30, u31, u32, u33, u34, u35, u36, u37, u38, u39, u40, u41, u42, u43, u44, u45, u46, u47, u48, u49, u50, u51, u52, u53, u54, u55, u56, u57, u58, u59, u60, u61, u62, u63, u64, u65, u66, u67, u68, u69, u70, u71, u72, u73, u74, u75, u76, u77, u78, u79, u80, u81, u82, u83, u84, u85, u86, u87, u88, u89, u90, u91, u92, u93, u94, u95, u96, u97, u98, u99, u100, u101, u102, u103, u104, u105, u106, u107, u108, u109, u110, u111, u112, u113, u114, u115, u116, u117, u118, u119, u120, u121, u122, u123, u124, u125, u126, u127, u128, u129, u130, u131, u132, u133, u134, u135, u136, u137, u138, u139, u140, u141, u142, u143], []⟩ wr := by
  conv => arg 2; whnf
  have HOF := hide HX.out.offOf
  have hko := HQ.out.o
  have c0 := HX.out.c0
  have c1 := HX.out.c1
  obtain ⟨ko, hkoe⟩ : ∃ x, k.o = x := ⟨_, rfl⟩
  have HKO := hide hkoe
  rw [hkoe] at hko c1 HOF
  have hlt : ko < s.length := by rw [← HKO.out]; exact hlt0
  have d1 : decide ((ko : Int) < (s.length : Int)) = true := by simp; omega
  have hki : (ko : Int) < (s.length : Int) := by omega
  go_wp2_with fail
  go_quiet (fail)
  have HX2 := hide (HX.out.below (below_dn wr nq wr.heap.size))
  have HE2 : Hid (Ex (fun k => k = p) w (wr.drewN nq)) := HE.out.drewN nq
  generalize wr.drewN nq = w2 at *
  clear HX HE c0 c1 d1
  have c0 := HX2.out.c0
  have c1 := HX2.out.c1
  rw [hkoe] at c1
  obtain ⟨c, hc⟩ : ∃ c, s[ko]? = some c := ⟨_, List.getElem?_eq_getElem hlt⟩
  obtain ⟨g, off, ha, cx⟩ := HX2.out.src ko c hc
  subst ha
  have HC : Hid (byP s (ko : Int) = c) := byP_at hc
  have HC2 := hide hc
  have hw1 : IntKind.i64.wrap ((ko : Int) + 1) = ((ko + 1 : Nat) : Int) := by rw [IntKind.wrap_i64]; omega
  obtain ⟨d, hd⟩ : ∃ d, byP s ((ko + 1 : Nat) : Int) = d := ⟨_, rfl⟩
  have HD := hide hd
  have HB : ∀ m, Hid (Calls Try.prog 91 #[.pointer (some ⟨p, 0, none⟩), .int .i64 ((ko + 1 : Nat) : Int)] (w2.drewN m) fun e w' => e = .returned (.int .u8 d) ∧ w' = w2.drewN m) := fun m => by
    have hx := HX2.out.below (below_dn w2 m w2.heap.size)
    have := byteAt_any _ _ _ _ s (ko + 1) hx.src hx.c0
    rw [hd] at this
    exact this
  clear hd hc hkoe
  go_wp2_with fail
  go_quiet (first | (go_at_call 91; refine Calls.quiet_of_same (HB _).out))
  have HX3 := hide (HX2.out.below (below_dn w2 nq w2.heap.size))
  have HE3 : Hid (Ex (fun k => k = p) w (w2.drewN nq)) := HE2.out.drewN nq
  generalize w2.drewN nq = w3 at *
  clear HX2 HE2 c0 c1 cx HB hw1
  have hb := hnb
  clear hnb
  rw [HKO.out, HC.out] at hb
  have n32 : (c == 32) = false := by simp; omega
  have n9 : (c == 9) = false := by simp; omega
  have n13 : (c == 13) = false := by simp; omega
  have n10 : (c == 10) = false := by simp; omega
  have hs := hcase
  clear hcase
  rw [HKO.out, HC.out, HD.out] at hs
  have HR1 : Hid (skP s ⟨eolK s (s.length - ko) ko, k.l, k.b⟩ = RR) := by
    show _ = _
    rw [← HR.out, ← HKO.out]
    exact (skP_line (by rw [HKO.out]; exact hlt) (by rw [HKO.out, HC.out]; exact hb) (by rw [HKO.out, HC.out, HD.out]; exact hs)).symm
  have c47 : (c == 47) = true := by simp; omega
  have e47 : (d == 47) = true := by simp; omega
  have HNE : Hid (byP s (ko : Int) ≠ 10) := by show _ ≠ _; rw [HC.out]; omega
  have HX3' : Hid (LX R w3 p (some ⟨g, off, none⟩) cp s ⟨ko, k.l, k.b⟩) := by rw [← HKO.out]; exact HX3.out
  clear HR hb hs HX3
  go_upto_region 6 with fail
  clear n32 n9 n13 n10 c47 e47
  go_loopw [55] (fun _ wr => ∃ (i : Nat), Hid (ko ≤ i ∧ i ≤ s.length ∧ eolK s (s.length - i) i = eolK s (s.length - ko) ko) ∧ Hid (Ex (fun k => k = p) w wr) ∧ Hid (LX R wr p (some ⟨g, off, none⟩) cp s ⟨i, k.l, k.b⟩)) (fun _ wr => s.length - offOf wr p)
  case atStart => exact ⟨ko, ⟨Nat.le_refl _, hko, rfl⟩, HE3, HX3'⟩
  case round =>
    generalize hgw : wr = wr2 at *
    clear hgw
    clear HE3 HX3'
    obtain ⟨i, HI, HEi, HXi⟩ := hrel
    have hi := HI.out
    have HOI := hide HXi.out.offOf
    have c0 := HXi.out.c0
    have c1 := HXi.out.c1
    dsimp only at c0 c1
    have QUIT : ∀ wz, Hid (LX R wz p (some ⟨g, off, none⟩) cp s ⟨i, k.l, k.b⟩) → Hid (Ex (fun k => k = p) w wz) → ¬ (i < s.length ∧ byP s i ≠ 10) → Hid (LX R wz p (some ⟨g, off, none⟩) cp s ⟨eolK s (s.length - ko) ko, k.l, k.b⟩) := fun wz h1 _ h2 => by
      have e := hi.2.2
      rw [eolK_stop s h2] at e
      rw [← e]
      exact h1
    by_cases hin : i < s.length
    · have d1 : decide ((i : Int) < (s.length : Int)) = true := by simp; omega
      have hii : (i : Int) < (s.length : Int) := by omega
      obtain ⟨ci, hci⟩ : ∃ c, s[i]? = some c := ⟨_, List.getElem?_eq_getElem hin⟩
      have HCI : Hid (byP s (i : Int) = ci) := byP_at hci
      obtain ⟨g1, off1, ha1, cx⟩ := HXi.out.src i ci hci
      injection ha1 with ha1
      injection ha1 with e1 e2
      subst e1 e2
      by_cases h10 : ci = 10
      · have f10 : (ci != 10) = false := by simp; exact h10
        have f10b : (ci == 10) = true := by simp; exact h10
        have HLF := QUIT
        go_wp2_with fail
        go_quiet (fail)
        have HX4 := hide (HXi.out.below (below_dn wr2 nq wr2.heap.size))
        have HE4 : Hid (Ex (fun k => k = p) w (wr2.drewN nq)) := HEi.out.drewN nq
        generalize wr2.drewN nq = w4 at *
        have HX5 := HLF w4 HX4 HE4 (fun z => z.2 (by rw [HCI.out]; exact h10))
        clear HX4 QUIT HLF f10 f10b cx c0 c1 d1 hii HXi HEi
        go_wp2
        go_roundw
        case rel => exact ⟨_, HR1, HQ.out.go (by rw [HKO.out]; exact (eolK_rng s _ ko hko).1) (eolK_rng s _ ko hko).2, HE4, HX5⟩
        case measure => (rw [HX5.out.offOf, HOF.out]; dsimp only; rw [eolK_step s hlt HNE.out]; have := (eolK_rng s (s.length - (ko + 1)) (ko + 1) (by omega)).1; omega)
      · have f10 : (ci != 10) = true := by simp; exact h10
        have f10b : (ci == 10) = false := by simp; exact h10
        have hw1 : IntKind.i64.wrap ((i : Int) + 1) = ((i + 1 : Nat) : Int) := by rw [IntKind.wrap_i64]; omega
        have HI2 : Hid (ko ≤ i + 1 ∧ i + 1 ≤ s.length ∧ eolK s (s.length - (i + 1)) (i + 1) = eolK s (s.length - ko) ko) := ⟨by omega, by omega, by rw [← eolK_step s hin (by rw [HCI.out]; exact h10)]; exact hi.2.2⟩
        clear QUIT
        go_wp2_with fail
        go_quiet (fail)
        have HX4 := hide (HXi.out.below (below_dn wr2 nq wr2.heap.size))
        have HE4 : Hid (Ex (fun k => k = p) w (wr2.drewN nq)) := HEi.out.drewN nq
        generalize wr2.drewN nq = w4 at *
        clear f10 f10b cx c0 c1 d1 HXi HEi
        have c1 := HX4.out.c1
        have f1 := HX4.out.f1
        dsimp only at c1
        go_wp2
        have HX5 : Hid (LX R (w4.setCell ⟨p, 1, none⟩ (.int .i64 ((i + 1 : Nat) : Int))) p (some ⟨g, off, none⟩) cp s ⟨i + 1, k.l, k.b⟩) := HX4.out.off (i + 1)
        have HE5 : Hid (Ex (fun k => k = p) w (w4.setCell ⟨p, 1, none⟩ (.int .i64 ((i + 1 : Nat) : Int)))) := HE4.out.set rfl _
        go_roundw
        case rel => exact ⟨i + 1, HI2, HE5, HX5⟩
        case measure => (have e5 := HX5.out.offOf; show s.length - offOf (w4.setCell ⟨p, 1, none⟩ (.int .i64 ((i + 1 : Nat) : Int))) p < _; rw [e5, HOI.out]; dsimp only; omega)
    · have d1 : decide ((i : Int) < (s.length : Int)) = false := by simp; omega
      have HLF := QUIT
      go_wp2_with fail
      go_quiet (fail)
      have HX4 := hide (HXi.out.below (below_dn wr2 nq wr2.heap.size))
      have HE4 : Hid (Ex (fun k => k = p) w (wr2.drewN nq)) := HEi.out.drewN nq
      generalize wr2.drewN nq = w4 at *
      have HX5 := HLF w4 HX4 HE4 (fun z => hin z.1)
      clear HX4 QUIT HLF c0 c1 d1 HXi HEi
      go_wp2
      go_roundw
      case rel => exact ⟨_, HR1, HQ.out.go (by rw [HKO.out]; exact (eolK_rng s _ ko hko).1) (eolK_rng s _ ko hko).2, HE4, HX5⟩
      case measure => (rw [HX5.out.offOf, HOF.out]; dsimp only; rw [eolK_step s hlt HNE.out]; have := (eolK_rng s (s.length - (ko + 1)) (ko + 1) (by omega)).1; omega)
end Go.Proofs.Qxb6500774a
