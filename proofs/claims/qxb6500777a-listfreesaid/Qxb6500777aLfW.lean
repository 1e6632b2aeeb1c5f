import Derived.Test.Qxb6500777aLfP
import Derived.Maps.AppendAt
import Derived.ChangeKeysEq
namespace Go.Proofs.Qxb6500777a
open Go.RowKit
set_option maxRecDepth 100000 in
theorem eq75 (w : World) : (Op.equalIn 10000 75 (.agg #[.int .i64 0, .int .i64 0, .int .i64 0, .int .i64 0]) (.agg #[.int .i64 0, .int .i64 0, .int .i64 0, .int .i64 0])).run Try.prog w = .ok true w := by
  obtain ⟨i3, hi3⟩ : ∃ i, Try.prog.info? 3 = some i := ⟨_, rfl⟩
  rw [run_equalIn_array w 9999 _ _ Try.underlying75 hi3]
  obtain ⟨r, hr, hiff⟩ := run_eqItems_plain (P := Try.prog) w 9998 (e := 3) (by kernel_rfl) #[.int .i64 0, .int .i64 0, .int .i64 0, .int .i64 0] #[.int .i64 0, .int .i64 0, .int .i64 0, .int .i64 0] (D := 5) (D' := 5) (List.range 4) [[.int .i64 0], [.int .i64 0], [.int .i64 0], [.int .i64 0]] [[.int .i64 0], [.int .i64 0], [.int .i64 0], [.int .i64 0]] (by kernel_rfl) (by kernel_rfl)
  rw [hr, hiff.2 rfl]
theorem ls_tgt (G : Nat → Int) : ∀ n d, d ∈ lsN G n → 0 ≤ d.target ∧ d.target < 112
  | 0, d, h => by simp [lsN] at h
  | n + 1, d, h => by
    rw [lsN, List.mem_append] at h
    rcases h with h | h
    · exact ls_tgt G n d h
    · split at h
      · rw [List.mem_singleton] at h
        subst h
        show (0 : Int) ≤ (n % 448 / 4 : Nat) ∧ ((n % 448 / 4 : Nat) : Int) < 112
        omega
      · cases h
/-- The list that is being put together, and the record at hand. -/
structure BK (wB wx : World) (x : Nat) (d : Det) (v : Value) (Ds : List Det) : Prop where
  row : DRow wx wB.heap.size v Ds
  bel : Below wB.heap.size wB wx
  bx : ∀ (j : Nat) (u : Value), d.vals[j]? = some u → wx.cell? ⟨x, j, none⟩ = some u
  no : v.ownBlock ≠ some x
theorem BK.first {wB wx : World} {v : Value} {Ds : List Det} (h : DRow wx wB.heap.size v Ds) (hb : Below wB.heap.size wB wx) (d : Det) : BK wB (wx.alloc (.cells d.vals.toArray 74)) wx.heap.size d v Ds :=
  ⟨h.below (be1 _ _), hb.alloc hb.size _, fun j u hu => by have := new_cells wx d.vals 74 j u hu; rw [Addr.add_mid, Nat.zero_add] at this; exact this, fun e => by have := (h.lt _ e).2; omega⟩
theorem BK.push {wB wx w3 : World} {x : Nat} {d : Det} {v v' : Value} {Ds E : List Det} (h : BK wB wx x d v Ds) {ob : Obj} (hown : w3.ownsRow wB.heap.size 74 4 v' (Ds.length + E.length) (Ds.flatMap Det.vals ++ E.flatMap Det.vals)) (hg : (wx.alloc ob).grownBy w3 v.ownBlock) (hat : v'.ownBlock = v.ownBlock ∨ v'.ownBlock = some (wx.alloc ob).heap.size) : BK wB w3 x d v' (Ds ++ E) := by
  have hxl : x < wx.heap.size := World.block_lt_of_cell? _ _ (h.bx 0 _ rfl)
  refine ⟨?_, bel_grownD (h.bel.alloc h.bel.size ob) (h.row.below (be1 _ _)) hg, fun j u hu => ?_, fun e => ?_⟩
  · unfold DRow; rw [List.length_append, List.flatMap_append]; exact hown
  · exact hg.cell (cellKeep (be1 wx ob) (h.bx j u hu)) (fun e => h.no e.symm)
  · rcases hat with z | z
    · rw [z] at e; exact h.no e
    · rw [z] at e; simp at e; omega
theorem BK.cc {wB wx : World} {x : Nat} {d : Det} {v : Value} {Ds : List Det} (h : BK wB wx x d v Ds) : wx.cell? ⟨x, 0, none⟩ = some (.int .i64 d.team) ∧ wx.cell? ⟨x, 1, none⟩ = some (.int .i64 d.target) ∧ wx.cell? ⟨x, 2, none⟩ = some (.int .i64 d.sensor) ∧ wx.cell? ⟨x, 3, none⟩ = some (.int .i64 d.grade) := ⟨h.bx 0 _ rfl, h.bx 1 _ rfl, h.bx 2 _ rfl, h.bx 3 _ rfl⟩
theorem LS.congrT {w0 w : World} {m p q b : Nat} {W : Nat → Tgt} {G : Nat → Int} {TT T2 : Nat → Tbl} {N : Int} (h : LS w0 w m p q b W G TT N) (e : ∀ k, k < 4 → TT k = T2 k) : LS w0 w m p q b W G T2 N :=
  ⟨h.mt, h.wr, h.pa, ⟨h.bd.c0, fun k hk => by rw [← e k hk]; exact h.bd.ta k hk⟩, ⟨fun k hk => by rw [← e k hk]; exact h.ti.tk k hk, fun k hk => by rw [← e k hk]; exact h.ti.nx k hk⟩, h.wo, h.gk, h.bel, h.ne, h.ge⟩

set_option linter.unusedSimpArgs false in
set_option maxRecDepth 100000 in
set_option maxHeartbeats 16000000 in
theorem listFree_walk (w : World) (a : Option Addr) (n cap : Nat) (f : Nat → Opn) (hn : n ≤ 9223372036854775807) (ho : OpsAt w a n f) :
    Calls Try.prog 9 #[.slice a n cap] w fun e w' => e = .returned (.bool true) ∧ Below w.heap.size w w' := by
  have HO := hide ho
  clear ho
  by_cases hsm : n ≤ 65536
  · go_enter Try.func9, Try.ntmps9
    go_wp2_with fail
    refine (small_any _ a n cap hn).mono ?_
    rintro e w' ⟨rfl, ew⟩
    rw [ew]
    have hd : decide (n ≤ 65536) = true := by simpa using hsm
    rw [hd]
    clear hd ew w'
    go_wp2_with fail
    refine (newT_any _).mono ?_
    rintro e wn1 ⟨rfl, h1, b1⟩
    obtain ⟨m, hm⟩ : ∃ x, w.heap.size = x := ⟨_, rfl⟩
    rw [hm] at h1 ⊢
    have hgem : w.heap.size ≤ m := by omega
    have hltm : m < wn1.heap.size := h1.lt
    have hsz1 := b1.size
    have Kt1 := hide h1
    have KB1 := hide b1
    clear h1 b1 hm
    go_wp2_with fail
    refine (newW_any _).mono ?_
    rintro e wn2 ⟨rfl, h1, b1⟩
    obtain ⟨p, hp⟩ : ∃ x, wn1.heap.size = x := ⟨_, rfl⟩
    rw [hp] at h1 ⊢
    have hgep : wn1.heap.size ≤ p := by omega
    have hltp : p < wn2.heap.size := h1.lt
    have hsz2 := b1.size
    have Kt2 := hide (Kt1.out.below b1)
    have Kw2 := hide h1
    have KB2 := hide (lec KB1.out b1)
    clear h1 b1 hp
    go_wp2_with fail
    refine (newP_any _).mono ?_
    rintro e wn3 ⟨rfl, h1, b1⟩
    obtain ⟨q, hq⟩ : ∃ x, wn2.heap.size = x := ⟨_, rfl⟩
    rw [hq] at h1 ⊢
    have hgeq : wn2.heap.size ≤ q := by omega
    have hltq : q < wn3.heap.size := h1.lt
    have hsz3 := b1.size
    have Kt3 := hide (Kt2.out.below b1)
    have Kw3 := hide (Kw2.out.below b1)
    have Kp3 := hide h1
    have KB3 := hide (lec KB2.out b1)
    clear h1 b1 hq
    go_wp2_with fail
    refine (newB_any _ m).mono ?_
    rintro e wn4 ⟨b, rfl, hbg, h1, b1⟩
    have hgeb : wn3.heap.size ≤ b := hbg
    have hltb : b < wn4.heap.size := h1.lt
    have hsz4 := b1.size
    have Kt4 := hide (Kt3.out.below b1)
    have Kw4 := hide (Kw3.out.below b1)
    have Kp4 := hide (Kp3.out.below b1)
    have Kb4 := hide h1
    have KB4 := hide (lec KB3.out b1)
    clear h1 b1 hbg
    go_wp2_with fail
    refine (newB_any _ m).mono ?_
    rintro e wn5 ⟨b2, rfl, hbg, h1, b1⟩
    have hgeb2 : wn4.heap.size ≤ b2 := hbg
    have hltb2 : b2 < wn5.heap.size := h1.lt
    have hsz5 := b1.size
    have Kt5 := hide (Kt4.out.below b1)
    have Kw5 := hide (Kw4.out.below b1)
    have Kp5 := hide (Kp4.out.below b1)
    have Kb5 := hide (Kb4.out.below b1)
    have KB25 := hide h1
    have KB5 := hide (lec KB4.out b1)
    clear h1 b1 hbg
    have HL := hide (show LS w wn5 m p q b (fun _ => tgt0) (fun _ => 0) (fun _ => tbl0) 1 from ⟨Kt5.out, Kw5.out, Kp5.out, Kb5.out, ⟨fun _ _ => tbl0_ok, fun _ _ => Int.le_refl 1⟩, fun _ _ => tgt0_ok, fun _ => ⟨Int.le_refl 0, by show (0 : Int) ≤ 3; omega⟩, KB5.out, by omega, by omega⟩)
    have HM := hide (show LS w wn5 m p q b2 (fun _ => tgt0) (fun _ => 0) (fun _ => tbl0) 1 from ⟨Kt5.out, Kw5.out, Kp5.out, KB25.out, ⟨fun _ _ => tbl0_ok, fun _ _ => Int.le_refl 1⟩, fun _ _ => tgt0_ok, fun _ => ⟨Int.le_refl 0, by show (0 : Int) ≤ 3; omega⟩, KB5.out, by omega, by omega⟩)
    have hbb2 : b ≠ b2 := by omega
    clear Kt5 Kw5 Kp5 Kb5 KB5
    clear Kt1
    clear KB1
    clear Kt2
    clear Kw2
    clear KB2
    clear Kt3
    clear Kw3
    clear Kp3
    clear KB3
    clear Kt4
    clear Kw4
    clear Kp4
    clear Kb4
    clear KB4
    go_wp2
    go_loopw [8, 9, 10, 11, 12, 13, 14, 15, 16] (fun s8 _ _ _ _ _ _ _ _ wr => ∃ (k : Nat) (W : Nat → Tgt) (G : Nat → Int) (TT : Nat → Tbl), k ≤ n ∧ s8 = .int .i64 k ∧ LS w wr m p q b W G TT (1 + 112 * (k : Int)) ∧ LS w wr m p q b2 W G TT (1 + 112 * (k : Int))) (fun s8 _ _ _ _ _ _ _ _ _ => n - (intOf s8).toNat)
    case atStart => exact ⟨0, _, _, _, Nat.zero_le _, rfl, HL.out, HM.out⟩

    case round =>
      clear HL
      clear HM
      obtain ⟨k, W, G, TT, hk, rfl, hl, hm⟩ := hrel
      have HL := hide hl
      clear hl
      have HM := hide hm
      clear hm
      by_cases hlt : k < n
      · have hlti : (k : Int) < (n : Int) := by omega
        obtain ⟨sb, off, rfl, hok, -⟩ := HO.out.at hlt
        have HC := hide (show ∀ wx, Below w.heap.size w wx → _ from fun wx hb => (HO.out.below hb).at hlt)
        obtain ⟨op, hop⟩ : ∃ op, f k = op := ⟨_, rfl⟩
        rw [hop] at hok HC
        have HOK := hide hok
        clear hok hop
        obtain ⟨_, _, e, -, c0, c1, c2, c3, c4, c5, c6⟩ := HC.out _ HL.out.bel
        cases e
        go_wp2_with fail
        refine (stepW_any _ p W HL.out.wr op HOK.out).mono ?_
        rintro e w2 ⟨rfl, h1, h2⟩
        have HL2 := hide (HL.out.world h2 h1 (wst_ok op HL.out.wo))
        have HM2 := hide (HM.out.world h2 h1 (wst_ok op HL.out.wo))
        clear c0 c1 c2 c3 c4 c5 c6 h1 h2 HL HM
        obtain ⟨W', hW'⟩ : ∃ W', wstP W op = W' := ⟨_, rfl⟩
        rw [hW'] at HL2 HM2
        clear hW'
        obtain ⟨_, _, e, -, c0, c1, c2, c3, c4, c5, c6⟩ := HC.out _ HL2.out.bel
        cases e
        by_cases hkd : op.kd = 2
        · have hkb : (op.kd == 2) = true := by simp [hkd]
          clear hkd
          go_wp2_with fail
          refine (list_any _ q G HL2.out.pa).mono ?_
          rintro e wB ⟨da, dc, rfl, hdr, hb⟩
          have HL3 := hide (HL2.out.below hb)
          have HM3 := hide (HM2.out.below hb)
          have hdl : (lsN G 1792).length ≤ 1792 := lsN_len G 1792
          have HDG := hide (show ∀ g off, da = some ⟨g, off, none⟩ → g < wB.heap.size ∧ g ≠ b ∧ g ≠ b2 from fun g off e => ⟨(hdr.da.2 g off e).2, by have := (hdr.da.2 g off e).1; have := HL2.out.bd.lt; omega, by have := (hdr.da.2 g off e).1; have := HM2.out.bd.lt; omega⟩)
          have HDA := hide hdr.da.1
          have HDT := hide (show ∀ d ∈ lsN G 1792, 0 ≤ d.target ∧ d.target < 112 from fun d hd => ls_tgt G 1792 d hd)
          have HBL := hide (show b < wB.heap.size ∧ b2 < wB.heap.size from ⟨HL3.out.bd.lt, HM3.out.bd.lt⟩)
          clear hdr hb HL2 HM2 c0 c1 c2 c3 c4 c5 c6
          obtain ⟨D, hD⟩ : ∃ D, lsN G 1792 = D := ⟨_, rfl⟩
          rw [hD] at hdl HDA HDT ⊢
          clear hD
          have HL2 := HL3
          have HM2 := HM3
          clear HL3 HM3
          have hwl : IntKind.i64.wrap ((D.length : Int) - 1) = (D.length : Int) - 1 := by rw [IntKind.wrap_i64]; omega
          obtain ⟨i0, hi0, hz0, hz1, hz2⟩ : ∃ i0, Try.prog.info? 74 = some i0 ∧ i0.zero = some (.agg #[.int .i64 0, .int .i64 0, .int .i64 0, .int .i64 0]) ∧ i0.size = 4 ∧ i0.bytes = 32 := ⟨_, rfl, rfl, rfl, rfl⟩
          go_wp2
          go_loopw [10, 11, 12] (fun s10 s11 _ wy => ∃ (j : Nat) (Ds : List Det) (ba : Option Addr) (bc : Nat), j ≤ D.length ∧ s11 = .int .i64 ((j : Int) - 1) ∧ s10 = .slice ba Ds.length bc ∧ DRow wy wB.heap.size (.slice ba Ds.length bc) Ds ∧ Hid (SoundEq Ds (D.drop j)) ∧ Ds.length + 7 * j ≤ 7 * D.length ∧ Below wB.heap.size wB wy) (fun _ s11 _ _ => (intOf s11 + 1).toNat)
          case atStart => exact ⟨D.length, [], none, 0, Nat.le_refl _, rfl, rfl, World.ownsRow_nil _ _ _ _, hide (by rw [List.drop_length]; exact fun d _ _ _ => Iff.rfl), by simp, Below.refl _ _⟩
          case round =>
            obtain ⟨j, Ds, ba, bc, hj, rfl, rfl, hrow, HSE, hdl2, hbe⟩ := hrel
            have HRW := hide hrow
            have HBE := hide hbe
            clear hrow hbe
            by_cases hj0 : j = 0
            · subst hj0
              rw [show ((0 : Nat) : Int) - 1 = -1 from rfl]
              have HSQ := hide (show SoundEq Ds D by have := HSE.out; rw [List.drop_zero] at this; exact this)
              have HLa := hide (HL2.out.below HBE.out)
              have HMa := hide (HM2.out.below HBE.out)
              have HDa := hide (HDA.out.below HBE.out)
              clear HSE
              go_wp2_with fail
              refine (tick_any _ b m p dX dY W' da D.length dc D TT (1 + 112 * (k : Int)) HLa.out.bd HLa.out.ti (by omega) HLa.out.mt HLa.out.ne.2.2.1 HDa.out rfl (by omega) (fun g off e => ⟨Nat.lt_of_lt_of_le (HDG.out g off e).1 HBE.out.size, (HDG.out g off e).2.1⟩) HLa.out.wr.wa HLa.out.ne.2.2.2.2.1 HLa.out.wo).mono ?_
              rintro e w6 ⟨T1, rfl, hbd, hti, htr, hfr⟩
              have HLb := hide (HLa.out.board hfr hbd hti)
              have HMb := hide (HMa.out.other hfr HLa.out.ne.2.2.1 HLa.out.ne.2.2.2.2.1 HLa.out.ne.2.2.2.2.2 (Ne.symm hbb2) HLa.out.ge.2.2)
              have HT1 := hide htr
              have HRb := hide (show DRow w6 wB.heap.size (.slice ba Ds.length bc) Ds from own_kept HRW.out hfr.ex (fun g hg e => by have := (HRW.out.lt g hg).1; have := HBL.out.1; omega))
              clear hbd hti htr hfr HLa HMa HDa HRW HBE
              go_wp2_with fail
              refine (tick_any _ b2 m p dX dY W' ba Ds.length bc Ds TT (1 + 112 * (k : Int)) HMb.out.bd HMb.out.ti (by omega) HMb.out.mt HMb.out.ne.2.2.1 HRb.out.da.1 rfl (by omega) (fun g off e => ⟨(HRb.out.da.2 g off e).2, by have := (HRb.out.da.2 g off e).1; have := HBL.out.2; omega⟩) HMb.out.wr.wa HMb.out.ne.2.2.2.2.1 HMb.out.wo).mono ?_
              rintro e w7 ⟨T2, rfl, hbd, hti, htr, hfr⟩
              have HLc := hide (HLb.out.other hfr HMb.out.ne.2.2.1 HMb.out.ne.2.2.2.2.1 HMb.out.ne.2.2.2.2.2 hbb2 HMb.out.ge.2.2)
              have HMc := hide ((HMb.out.board hfr hbd hti).congrT (ticks_same HSQ.out htr HT1.out))
              clear hbd hti htr hfr HLb HMb HT1 HRb HSQ
              have HTI := hide HLc.out.ti
              go_wp2
              go_loopw [13, 14, 15, 16] (fun s13 _ _ _ wx => ∃ t : Nat, t ≤ 4 ∧ s13 = .int .i64 t ∧ LS w wx m p q b W' G T1 (1 + 112 * (k : Int) + 112) ∧ LS w wx m p q b2 W' G T1 (1 + 112 * (k : Int) + 112)) (fun s13 _ _ _ _ => 4 - (intOf s13).toNat)
              case atStart => exact ⟨0, by omega, rfl, HLc.out, HMc.out⟩
              case round =>
                clear HLc HMc
                obtain ⟨t, ht, rfl, hl, hm⟩ := hrel
                have HL := hide hl
                have HM := hide hm
                clear hl hm
                by_cases ht4 : t < 4
                · have ht4i : (t : Int) < 4 := by omega
                  have HTV := hide (HTI.out.tk t ht4).inv
                  have HTA := hide (show ∀ wx, LS w wx m p q b W' G T1 (1 + 112 * (k : Int) + 112) → TA wx b (1 + t * 754) (T1 t) from fun wx h => h.bd.ta t ht4)
                  have HTB := hide (show ∀ wx, LS w wx m p q b2 W' G T1 (1 + 112 * (k : Int) + 112) → TA wx b2 (1 + t * 754) (T1 t) from fun wx h => h.bd.ta t ht4)
                  obtain ⟨T, hT⟩ : ∃ T, T1 t = T := ⟨_, rfl⟩
                  rw [hT] at HTV HTA HTB
                  clear hT
                  go_wp2_with fail
                  refine (table_any _ b t ht4 T (HTA.out _ HL.out)).mono ?_
                  rintro e w8 ⟨ta, tc, rfl, hr8, hb8⟩
                  have HL8 := hide (HL.out.below hb8)
                  have HM8 := hide (HM.out.below hb8)
                  have HR8 := hide hr8
                  clear hr8 hb8 HL HM
                  go_wp2_with fail
                  refine (table_any _ b2 t ht4 T (HTB.out _ HM8.out)).mono ?_
                  rintro e w9 ⟨tb, td, rfl, hr9, hb9⟩
                  have HL9 := hide (HL8.out.below hb9)
                  have HM9 := hide (HM8.out.below hb9)
                  have HR9 := hide (HR8.out.below hb9)
                  have HS9 := hide hr9
                  clear hr9 hb9 HL8 HM8 HR8
                  have hLl : (tabN T 64).length ≤ 64 := tab_le 64
                  have HCT := hide (cen_tab T)
                  have HCR := hide (show ∀ d ∈ tabN T 64, 0 ≤ d.st ∧ d.st ≤ 3 from fun d hd => by obtain ⟨z, z1, z2, rfl⟩ := (tab_mem 64 d).1 hd; exact (HTV.out.ok z z1).tr.st)
                  obtain ⟨L, hL⟩ : ∃ L, tabN T 64 = L := ⟨_, rfl⟩
                  have HCL := hide (show ∀ s, cL L s = cenP T 64 s from fun s => by rw [← hL]; exact cen_tab T s 64)
                  rw [hL] at hLl HR9 HS9 HCR ⊢
                  clear hL HCT
                  obtain ⟨n1, hn1⟩ : ∃ n, L.length = n := ⟨_, rfl⟩
                  rw [hn1] at hLl HR9 HS9 ⊢
                  have HN1 := hide hn1
                  clear hn1
                  go_wp2_with fail
                  refine (same_any _ _ _ ta tb n1 tc td L HR9.out HS9.out HN1.out.symm hLl).mono ?_
                  rintro e w10 ⟨rfl, hb⟩
                  have HL10 := hide (HL9.out.below hb)
                  have HM10 := hide (HM9.out.below hb)
                  have HR10 := hide (HR9.out.below hb)
                  clear hb HL9 HM9 HR9 HS9
                  go_wp2_with fail
                  refine (census_any _ b t ht4 T (HTA.out _ HL10.out) HTV.out).mono ?_
                  rintro e w11 ⟨rfl, hb⟩
                  have HL11 := hide ((HL10.out.below hb).below (be1 w11 (.cells #[.int .i64 (cenP T 64 0), .int .i64 (cenP T 64 1), .int .i64 (cenP T 64 2), .int .i64 (cenP T 64 3)] 75)))
                  have HM11 := hide ((HM10.out.below hb).below (be1 w11 (.cells #[.int .i64 (cenP T 64 0), .int .i64 (cenP T 64 1), .int .i64 (cenP T 64 2), .int .i64 (cenP T 64 3)] 75)))
                  have HR11 := hide ((HR10.out.below hb).below (be1 w11 (.cells #[.int .i64 (cenP T 64 0), .int .i64 (cenP T 64 1), .int .i64 (cenP T 64 2), .int .i64 (cenP T 64 3)] 75)))
                  have HCN := hide ((new_cn w11 (cenP T 64 0) (cenP T 64 1) (cenP T 64 2) (cenP T 64 3)).congr (g := fun s => cenP T 64 s - cL (L.take 0) s) (fun i hi => by rcases (by omega : i = 0 ∨ i = 1 ∨ i = 2 ∨ i = 3) with rfl | rfl | rfl | rfl <;> simp [cL]))
                  have hxl : b < w11.heap.size ∧ b2 < w11.heap.size ∧ m < w11.heap.size ∧ p < w11.heap.size ∧ q < w11.heap.size := ⟨Nat.lt_of_lt_of_le HL10.out.bd.lt hb.size, Nat.lt_of_lt_of_le HM10.out.bd.lt hb.size, Nat.lt_of_lt_of_le HL10.out.mt.lt hb.size, Nat.lt_of_lt_of_le HL10.out.wr.lt hb.size, Nat.lt_of_lt_of_le HL10.out.pa.lt hb.size⟩
                  have hxw : w.heap.size ≤ w11.heap.size := (lec HL10.out.bel hb).size
                  have HRX := hide (show ∀ g, (Value.slice ta n1 tc).ownBlock = some g → g < w11.heap.size from fun g hg => Nat.lt_of_lt_of_le (HR10.out.lt g hg).2 hb.size)
                  clear hb HL10 HM10 HR10
                  go_upto_region 32 with fail
                  generalize w11.alloc (.cells #[.int .i64 (cenP T 64 0), .int .i64 (cenP T 64 1), .int .i64 (cenP T 64 2), .int .i64 (cenP T 64 3)] 75) = w12 at *
                  obtain ⟨x, hx⟩ : ∃ x, w11.heap.size = x := ⟨_, rfl⟩
                  rw [hx] at hxl hxw HCN HRX ⊢
                  clear hx
                  have HXN := hide (show m ≠ x ∧ p ≠ x ∧ q ≠ x ∧ b ≠ x ∧ b2 ≠ x by omega)
                  obtain ⟨B0, HR12⟩ : ∃ B0, Hid (TRow w12 B0 (.slice ta n1 tc) L) := ⟨_, HR11⟩
                  clear HR11 hxl
                  go_wp2
                  go_loopw [16] (fun s16 wx => ∃ j : Nat, j ≤ n1 ∧ s16 = .int .i64 j ∧ CN wx x (fun s => cenP T 64 s - cL (L.take j) s) ∧ LS w wx m p q b W' G T1 (1 + 112 * (k : Int) + 112) ∧ LS w wx m p q b2 W' G T1 (1 + 112 * (k : Int) + 112) ∧ TRow wx B0 (.slice ta n1 tc) L) (fun s16 _ => n1 - (intOf s16).toNat)
                  case atStart => exact ⟨0, by omega, rfl, HCN.out, HL11.out, HM11.out, HR12.out⟩
                  case round =>
                    clear HCN HL11 HM11 HR12
                    obtain ⟨j, hj, rfl, hcn, hl, hm, hr⟩ := hrel
                    have HCN := hide hcn
                    have HL := hide hl
                    have HM := hide hm
                    have HR := hide hr
                    clear hcn hl hm hr
                    by_cases hjn : j < n1
                    · have hjni : (j : Int) < (n1 : Int) := by omega
                      obtain ⟨d, hd⟩ : ∃ d, L[j]? = some d := ⟨_, List.getElem?_eq_getElem (by have := HN1.out; omega)⟩
                      have hst := HCR.out d (List.mem_of_getElem? hd)
                      obtain ⟨y, hy⟩ : ∃ y : Nat, d.st = y := ⟨d.st.toNat, by omega⟩
                      have hy4 : y < 4 := by omega
                      have hy4i : (y : Int) < 4 := by omega
                      have HX := hide (show ∀ s, cL (L.take (j + 1)) s = cL (L.take j) s + (if (y : Int) = s then 1 else 0) from fun s => by rw [← hy]; exact cL_take hd s)
                      obtain ⟨g, e, hra⟩ := HR.out.get HN1.out.symm hd
                      subst e
                      have d5 := hra.tt.2.2.2.2.2.1
                      rw [hy] at d5
                      have c0 := HCN.out.c y hy4
                      have f0 := HCN.out.f y
                      have r1 := cen_rng T (y : Int) 64
                      have r2 := cL_rng (L.take j) (y : Int)
                      have r3 : (L.take j).length ≤ 64 := by rw [List.length_take]; omega
                      have hwc : IntKind.i64.wrap (cenP T 64 (y : Int) - cL (L.take j) (y : Int) - 1) = cenP T 64 (y : Int) - cL (L.take j) (y : Int) - 1 := by rw [IntKind.wrap_i64]; omega
                      have HS := hide (HCN.out.set hy4 (cenP T 64 (y : Int) - cL (L.take j) (y : Int) - 1))
                      have HF := hide ((Fr.refl x 0 4 wr).set (j := y) (by omega) (by omega) (.int .i64 (cenP T 64 (y : Int) - cL (L.take j) (y : Int) - 1)))
                      have HL' := hide (HL.out.other HF.out HXN.out.1 HXN.out.2.1 HXN.out.2.2.1 HXN.out.2.2.2.1 hxw)
                      have HM' := hide (HM.out.other HF.out HXN.out.1 HXN.out.2.1 HXN.out.2.2.1 HXN.out.2.2.2.2 hxw)
                      have HR' := hide (show TRow _ B0 (.slice (some ⟨g, 0, none⟩) n1 tc) L from own_kept HR.out HF.out.ex (fun z hz e => by have := HRX.out z hz; omega))
                      clear hd hst hy hra r1 r2 r3 HF
                      go_wp2
                      go_roundw
                      case rel => exact ⟨j + 1, by omega, by simp, HS.out.congr (fun s hs => by
                        rw [HX.out]
                        by_cases e : s = y
                        · subst e; rw [upd_same, if_pos rfl]; omega
                        · rw [upd_ne _ _ e, if_neg (by omega)]; omega), HL'.out, HM'.out, HR'.out⟩
                      case measure => simp [intOf]; omega
                    · have hjni : ¬ (j : Int) < (n1 : Int) := by omega
                      have HZ := hide (HCN.out.congr (g := fun _ => 0) (fun i _ => by rw [List.take_of_length_le (by have := HN1.out; omega), HCL.out]; omega))
                      have z0 := HZ.out.c 0 (by omega)
                      have z1 := HZ.out.c 1 (by omega)
                      have z2 := HZ.out.c 2 (by omega)
                      have z3 := HZ.out.c 3 (by omega)
                      have e75 := eq75 wr
                      go_wp2
                      go_roundw
                      case rel => exact ⟨t + 1, by omega, by simp, HL.out, HM.out⟩
                      case measure => simp [intOf]; omega
                · obtain rfl : t = 4 := by omega
                  rw [show ((4 : Nat) : Int) = 4 from rfl]
                  go_upto_region 38 with fail
                  obtain ⟨_, _, e, -, c0, c1, c2, c3, c4, c5, c6⟩ := HC.out _ HL.out.bel
                  cases e
                  go_wp2_with fail
                  refine (stepP_any _ q G HL.out.pa op HOK.out).mono ?_
                  rintro e w9 ⟨rfl, h1, h2⟩
                  have HLe := hide ((HL.out.pend h2 h1 (pst_ok op HL.out.gk)).mono (N' := 1 + 112 * ((k + 1 : Nat) : Int)) (by omega))
                  have HMe := hide ((HM.out.pend h2 h1 (pst_ok op HL.out.gk)).mono (N' := 1 + 112 * ((k + 1 : Nat) : Int)) (by omega))
                  clear c0 c1 c2 c3 c4 c5 c6 h1 h2 HL HM
                  go_wp2
                  go_roundw
                  case rel => exact ⟨k + 1, _, _, _, by omega, by simp, HLe.out, HMe.out⟩
                  case measure => simp [intOf]; omega
            · obtain ⟨i, hi⟩ : ∃ i, j = i + 1 := ⟨j - 1, by omega⟩
              subst hi
              rw [show ((i + 1 : Nat) : Int) - 1 = (i : Int) by omega]
              have hii : (i : Int) < (D.length : Int) := by omega
              have hwi : IntKind.i64.wrap ((i : Int) - 1) = (i : Int) - 1 := by rw [IntKind.wrap_i64]; omega
              obtain ⟨d, hd⟩ : ∃ d, D[i]? = some d := ⟨_, List.getElem?_eq_getElem (by omega)⟩
              have HDJ := hide (show D.drop i = d :: D.drop (i + 1) by rw [List.drop_eq_getElem_cons (by omega)]; rw [List.getElem?_eq_getElem (by omega)] at hd; cases hd; rfl)
              have hdt := HDT.out d (List.mem_of_getElem? hd)
              have hwt : IntKind.i64.wrap (d.target + 1) = d.target + 1 := by rw [IntKind.wrap_i64]; omega
              have hwm : (d.target + 1).tmod 112 = (d.target + 1) % 112 := Int.tmod_eq_emod_of_nonneg (by omega)
              have hwr : IntKind.i64.wrap ((d.target + 1) % 112) = (d.target + 1) % 112 := by rw [IntKind.wrap_i64]; omega
              obtain ⟨g, off, e, hcc⟩ := (HDA.out.below HBE.out) i d hd
              subst e
              have y0 := hcc 0 _ rfl
              have y1 := hcc 1 _ rfl
              have y2 := hcc 2 _ rfl
              have y3 := hcc 3 _ rfl
              rw [Nat.add_zero] at y0
              clear hcc hd hj0
              go_upto_region 19 with fail
              have HK := hide (show BK wB (wr.alloc (.cells #[.int .i64 d.team, .int .i64 d.target, .int .i64 d.sensor, .int .i64 d.grade] 74)) wr.heap.size d (.slice ba Ds.length bc) Ds from BK.first HRW.out HBE.out d)
              clear y0 y1 y2 y3 HRW HBE
              generalize wr.alloc (.cells #[.int .i64 d.team, .int .i64 d.target, .int .i64 d.sensor, .int .i64 d.grade] 74) = w5 at *
              generalize wr.heap.size = x at *
              obtain ⟨x0, x1, x2, x3⟩ := HK.out.cc
              go_upto_region 19 with fail
              have HR3 := hide (HK.out.row.below (be1 w5 (.cells #[.int .i64 d.team, .int .i64 (-1), .int .i64 0, .int .i64 3, .int .i64 d.team, .int .i64 112, .int .i64 0, .int .i64 3] 74)))
              have HNC := hide (show ∀ (j : Nat) (u : Value), (([⟨d.team, (-1), 0, 3⟩, ⟨d.team, 112, 0, 3⟩] : List Det).flatMap Det.vals)[j]? = some u → (w5.alloc (.cells #[.int .i64 d.team, .int .i64 (-1), .int .i64 0, .int .i64 3, .int .i64 d.team, .int .i64 112, .int .i64 0, .int .i64 3] 74)).cell? ((⟨w5.heap.size, 0, none⟩ : Addr).add j) = some u from fun j u hj => new_cells _ (([⟨d.team, (-1), 0, 3⟩, ⟨d.team, 112, 0, 3⟩] : List Det).flatMap Det.vals) 74 j u hj)
              have HV := hide (show ∀ u ∈ ([⟨d.team, (-1), 0, 3⟩, ⟨d.team, 112, 0, 3⟩] : List Det).flatMap Det.vals, u.oneCell' = true from fun u hu => by obtain ⟨x, _, hx⟩ := List.mem_flatMap.1 hu; exact dvals_one x u hx)
              have HSZ := hide (show wB.heap.size ≤ (w5.alloc (.cells #[.int .i64 d.team, .int .i64 (-1), .int .i64 0, .int .i64 3, .int .i64 d.team, .int .i64 112, .int .i64 0, .int .i64 3] 74)).heap.size by have := HK.out.bel.size; simp; omega)
              have HMX := hide (show Ds.length + 2 ≤ maxLen ∧ (Ds.length + 2) * 32 ≤ 140737488355328 by unfold maxLen; omega)
              go_upto_region 20 with (at_builtin; go_loud (refine wpList_append_own_at _ rfl (.tmp 58) (.tmp 65) 39 rfl wB.heap.size 74 i0 _ 4 32 Try.underlying39 hi0 hz0 hz1 hz2 rfl (by decide) (.slice ba Ds.length bc) Ds.length (Ds.flatMap Det.vals) rfl HR3.out _ 2 2 (([⟨d.team, (-1), 0, 3⟩, ⟨d.team, 112, 0, 3⟩] : List Det).flatMap Det.vals) rfl rfl HNC.out HV.out HMX.out.1 HMX.out.2 HSZ.out ?_; intro v' w6 hown hgrow hnil hat; have HK4 := hide (HK.out.push (E := [⟨d.team, (-1), 0, 3⟩, ⟨d.team, 112, 0, 3⟩]) hown hgrow hat); obtain ⟨ba1, bc1, rfl⟩ := own_form hown; clear hown hgrow hnil hat))
              clear HK HR3 HNC HV HSZ HMX x0 x1 x2 x3
              obtain ⟨Ds1, hDs⟩ : ∃ x, Ds ++ [⟨d.team, (-1), 0, 3⟩, ⟨d.team, 112, 0, 3⟩] = x := ⟨_, rfl⟩
              have HDL0 := hide (show Ds1.length = Ds.length + 2 by rw [← hDs, List.length_append]; rfl)
              have hle0 : Ds1.length ≤ Ds.length + 2 := Nat.le_of_eq HDL0.out
              have HDE0 := hide hDs
              rw [hDs] at HK4
              rw [show Ds.length + 2 = Ds1.length from HDL0.out.symm] at HK4 ⊢
              clear hDs
              have HK := HK4
              clear HK4
              obtain ⟨x0, x1, x2, x3⟩ := HK.out.cc
              have HR3 := hide (HK.out.row.below (be1 w6 (.cells #[.int .i64 d.team, .int .i64 d.target, .int .i64 d.sensor, .int .i64 d.grade] 74)))
              have HNC := hide (show ∀ (j : Nat) (u : Value), (([⟨d.team, d.target, d.sensor, d.grade⟩] : List Det).flatMap Det.vals)[j]? = some u → (w6.alloc (.cells #[.int .i64 d.team, .int .i64 d.target, .int .i64 d.sensor, .int .i64 d.grade] 74)).cell? ((⟨w6.heap.size, 0, none⟩ : Addr).add j) = some u from fun j u hj => new_cells _ (([⟨d.team, d.target, d.sensor, d.grade⟩] : List Det).flatMap Det.vals) 74 j u hj)
              have HV := hide (show ∀ u ∈ ([⟨d.team, d.target, d.sensor, d.grade⟩] : List Det).flatMap Det.vals, u.oneCell' = true from fun u hu => by obtain ⟨x, _, hx⟩ := List.mem_flatMap.1 hu; exact dvals_one x u hx)
              have HSZ := hide (show wB.heap.size ≤ (w6.alloc (.cells #[.int .i64 d.team, .int .i64 d.target, .int .i64 d.sensor, .int .i64 d.grade] 74)).heap.size by have := HK.out.bel.size; simp; omega)
              have HMX := hide (show Ds1.length + 1 ≤ maxLen ∧ (Ds1.length + 1) * 32 ≤ 140737488355328 by unfold maxLen; omega)
              go_upto_region 21 with (at_builtin; go_loud (refine wpList_append_own_at _ rfl (.tmp 67) (.tmp 69) 39 rfl wB.heap.size 74 i0 _ 4 32 Try.underlying39 hi0 hz0 hz1 hz2 rfl (by decide) (.slice ba1 Ds1.length bc1) Ds1.length (Ds1.flatMap Det.vals) rfl HR3.out _ 1 1 (([⟨d.team, d.target, d.sensor, d.grade⟩] : List Det).flatMap Det.vals) rfl rfl HNC.out HV.out HMX.out.1 HMX.out.2 HSZ.out ?_; intro v' w7 hown hgrow hnil hat; have HK4 := hide (HK.out.push (E := [⟨d.team, d.target, d.sensor, d.grade⟩]) hown hgrow hat); obtain ⟨ba2, bc2, rfl⟩ := own_form hown; clear hown hgrow hnil hat))
              clear HK HR3 HNC HV HSZ HMX x0 x1 x2 x3
              obtain ⟨Ds2, hDs⟩ : ∃ x, Ds1 ++ [⟨d.team, d.target, d.sensor, d.grade⟩] = x := ⟨_, rfl⟩
              have HDL1 := hide (show Ds2.length = Ds1.length + 1 by rw [← hDs, List.length_append]; rfl)
              have hle1 : Ds2.length ≤ Ds1.length + 1 := Nat.le_of_eq HDL1.out
              have HDE1 := hide hDs
              rw [hDs] at HK4
              rw [show Ds1.length + 1 = Ds2.length from HDL1.out.symm] at HK4 ⊢
              clear hDs
              have HK := HK4
              clear HK4
              obtain ⟨x0, x1, x2, x3⟩ := HK.out.cc
              have HR3 := hide (HK.out.row.below (be1 w7 (.cells #[.int .i64 d.team, .int .i64 d.target, .int .i64 0, .int .i64 4, .int .i64 d.team, .int .i64 ((d.target + 1) % 112), .int .i64 0, .int .i64 0] 74)))
              have HNC := hide (show ∀ (j : Nat) (u : Value), (([⟨d.team, d.target, 0, 4⟩, ⟨d.team, ((d.target + 1) % 112), 0, 0⟩] : List Det).flatMap Det.vals)[j]? = some u → (w7.alloc (.cells #[.int .i64 d.team, .int .i64 d.target, .int .i64 0, .int .i64 4, .int .i64 d.team, .int .i64 ((d.target + 1) % 112), .int .i64 0, .int .i64 0] 74)).cell? ((⟨w7.heap.size, 0, none⟩ : Addr).add j) = some u from fun j u hj => new_cells _ (([⟨d.team, d.target, 0, 4⟩, ⟨d.team, ((d.target + 1) % 112), 0, 0⟩] : List Det).flatMap Det.vals) 74 j u hj)
              have HV := hide (show ∀ u ∈ ([⟨d.team, d.target, 0, 4⟩, ⟨d.team, ((d.target + 1) % 112), 0, 0⟩] : List Det).flatMap Det.vals, u.oneCell' = true from fun u hu => by obtain ⟨x, _, hx⟩ := List.mem_flatMap.1 hu; exact dvals_one x u hx)
              have HSZ := hide (show wB.heap.size ≤ (w7.alloc (.cells #[.int .i64 d.team, .int .i64 d.target, .int .i64 0, .int .i64 4, .int .i64 d.team, .int .i64 ((d.target + 1) % 112), .int .i64 0, .int .i64 0] 74)).heap.size by have := HK.out.bel.size; simp; omega)
              have HMX := hide (show Ds2.length + 2 ≤ maxLen ∧ (Ds2.length + 2) * 32 ≤ 140737488355328 by unfold maxLen; omega)
              go_upto_region 22 with (at_builtin; go_loud (refine wpList_append_own_at _ rfl (.tmp 71) (.tmp 84) 39 rfl wB.heap.size 74 i0 _ 4 32 Try.underlying39 hi0 hz0 hz1 hz2 rfl (by decide) (.slice ba2 Ds2.length bc2) Ds2.length (Ds2.flatMap Det.vals) rfl HR3.out _ 2 2 (([⟨d.team, d.target, 0, 4⟩, ⟨d.team, ((d.target + 1) % 112), 0, 0⟩] : List Det).flatMap Det.vals) rfl rfl HNC.out HV.out HMX.out.1 HMX.out.2 HSZ.out ?_; intro v' w8 hown hgrow hnil hat; have HK4 := hide (HK.out.push (E := [⟨d.team, d.target, 0, 4⟩, ⟨d.team, ((d.target + 1) % 112), 0, 0⟩]) hown hgrow hat); obtain ⟨ba3, bc3, rfl⟩ := own_form hown; clear hown hgrow hnil hat))
              clear HK HR3 HNC HV HSZ HMX x0 x1 x2 x3
              obtain ⟨Ds3, hDs⟩ : ∃ x, Ds2 ++ [⟨d.team, d.target, 0, 4⟩, ⟨d.team, ((d.target + 1) % 112), 0, 0⟩] = x := ⟨_, rfl⟩
              have HDL2 := hide (show Ds3.length = Ds2.length + 2 by rw [← hDs, List.length_append]; rfl)
              have hle2 : Ds3.length ≤ Ds2.length + 2 := Nat.le_of_eq HDL2.out
              have HDE2 := hide hDs
              rw [hDs] at HK4
              rw [show Ds2.length + 2 = Ds3.length from HDL2.out.symm] at HK4 ⊢
              clear hDs
              have HK := HK4
              clear HK4
              obtain ⟨x0, x1, x2, x3⟩ := HK.out.cc
              have HR3 := hide (HK.out.row.below (be1 w8 (.cells #[.int .i64 (-1), .int .i64 d.target, .int .i64 0, .int .i64 3, .int .i64 4, .int .i64 d.target, .int .i64 0, .int .i64 3] 74)))
              have HNC := hide (show ∀ (j : Nat) (u : Value), (([⟨(-1), d.target, 0, 3⟩, ⟨4, d.target, 0, 3⟩] : List Det).flatMap Det.vals)[j]? = some u → (w8.alloc (.cells #[.int .i64 (-1), .int .i64 d.target, .int .i64 0, .int .i64 3, .int .i64 4, .int .i64 d.target, .int .i64 0, .int .i64 3] 74)).cell? ((⟨w8.heap.size, 0, none⟩ : Addr).add j) = some u from fun j u hj => new_cells _ (([⟨(-1), d.target, 0, 3⟩, ⟨4, d.target, 0, 3⟩] : List Det).flatMap Det.vals) 74 j u hj)
              have HV := hide (show ∀ u ∈ ([⟨(-1), d.target, 0, 3⟩, ⟨4, d.target, 0, 3⟩] : List Det).flatMap Det.vals, u.oneCell' = true from fun u hu => by obtain ⟨x, _, hx⟩ := List.mem_flatMap.1 hu; exact dvals_one x u hx)
              have HSZ := hide (show wB.heap.size ≤ (w8.alloc (.cells #[.int .i64 (-1), .int .i64 d.target, .int .i64 0, .int .i64 3, .int .i64 4, .int .i64 d.target, .int .i64 0, .int .i64 3] 74)).heap.size by have := HK.out.bel.size; simp; omega)
              have HMX := hide (show Ds3.length + 2 ≤ maxLen ∧ (Ds3.length + 2) * 32 ≤ 140737488355328 by unfold maxLen; omega)
              go_upto_region 17 with (at_builtin; go_loud (refine wpList_append_own_at _ rfl (.tmp 86) (.tmp 93) 39 rfl wB.heap.size 74 i0 _ 4 32 Try.underlying39 hi0 hz0 hz1 hz2 rfl (by decide) (.slice ba3 Ds3.length bc3) Ds3.length (Ds3.flatMap Det.vals) rfl HR3.out _ 2 2 (([⟨(-1), d.target, 0, 3⟩, ⟨4, d.target, 0, 3⟩] : List Det).flatMap Det.vals) rfl rfl HNC.out HV.out HMX.out.1 HMX.out.2 HSZ.out ?_; intro v' w9 hown hgrow hnil hat; have HK4 := hide (HK.out.push (E := [⟨(-1), d.target, 0, 3⟩, ⟨4, d.target, 0, 3⟩]) hown hgrow hat); obtain ⟨ba4, bc4, rfl⟩ := own_form hown; clear hown hgrow hnil hat))
              clear HK HR3 HNC HV HSZ HMX x0 x1 x2 x3
              obtain ⟨Ds4, hDs⟩ : ∃ x, Ds3 ++ [⟨(-1), d.target, 0, 3⟩, ⟨4, d.target, 0, 3⟩] = x := ⟨_, rfl⟩
              have HDL3 := hide (show Ds4.length = Ds3.length + 2 by rw [← hDs, List.length_append]; rfl)
              have hle3 : Ds4.length ≤ Ds3.length + 2 := Nat.le_of_eq HDL3.out
              have HDE3 := hide hDs
              rw [hDs] at HK4
              rw [show Ds3.length + 2 = Ds4.length from HDL3.out.symm] at HK4 ⊢
              clear hDs
              have HK := HK4
              clear HK4
              obtain ⟨x0, x1, x2, x3⟩ := HK.out.cc
              have HSE2 := hide (show SoundEq Ds4 (D.drop i) by
                rw [← HDE3.out, ← HDE2.out, ← HDE1.out, ← HDE0.out, HDJ.out]
                refine SoundEq.add (SoundEq.add (SoundEq.both (SoundEq.add HSE.out ?_) d) ?_) ?_
                · intro z hz
                  simp only [List.mem_cons, List.not_mem_nil, or_false] at hz
                  rcases hz with rfl | rfl <;> simp [soundP]
                · intro z hz
                  simp only [List.mem_cons, List.not_mem_nil, or_false] at hz
                  rcases hz with rfl | rfl <;> simp [soundP]
                · intro z hz
                  simp only [List.mem_cons, List.not_mem_nil, or_false] at hz
                  rcases hz with rfl | rfl <;> simp)
              have HRE := hide HK.out.row
              have HBE2 := hide HK.out.bel
              clear x0 x1 x2 x3 HK
              go_wp2
              go_roundw
              case rel => exact ⟨i, Ds4, ba4, bc4, by omega, rfl, rfl, HRE.out, HSE2.out, by omega, HBE2.out⟩
              case measure => simp [intOf]
        · have hkb : (op.kd == 2) = false := by simp [hkd]
          clear hkd
          go_upto_region 38 with fail
          clear c0 c1 c2 c3 c4 c5 c6
          obtain ⟨_, _, e, -, c0, c1, c2, c3, c4, c5, c6⟩ := HC.out _ HL2.out.bel
          cases e
          go_wp2_with fail
          refine (stepP_any _ q G HL2.out.pa op HOK.out).mono ?_
          rintro e w9 ⟨rfl, h1, h2⟩
          have HLe := hide ((HL2.out.pend h2 h1 (pst_ok op HL2.out.gk)).mono (N' := 1 + 112 * ((k + 1 : Nat) : Int)) (by omega))
          have HMe := hide ((HM2.out.pend h2 h1 (pst_ok op HL2.out.gk)).mono (N' := 1 + 112 * ((k + 1 : Nat) : Int)) (by omega))
          clear c0 c1 c2 c3 c4 c5 c6 h1 h2 HL2 HM2
          go_wp2
          go_roundw
          case rel => exact ⟨k + 1, _, _, _, by omega, by simp, HLe.out, HMe.out⟩
          case measure => simp [intOf]; omega
      · obtain rfl : k = n := by omega
        have hlti : ¬ (k : Int) < (k : Int) := by omega
        go_wp2
        go_ret
        exact ⟨rfl, HL.out.bel⟩
  · go_enter Try.func9, Try.ntmps9
    go_wp2_with fail
    refine (small_any _ a n cap hn).mono ?_
    rintro e w' ⟨rfl, ew⟩
    rw [ew]
    have hd : decide (n ≤ 65536) = false := by simpa using hsm
    rw [hd]
    clear hd ew w'
    go_wp2
    go_ret
    exact ⟨rfl, Below.refl _ _⟩
end Go.Proofs.Qxb6500777a
