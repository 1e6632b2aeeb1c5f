import Derived.Test.Qxb6500773aGreatMz0
namespace Go.Proofs.Qxb6500773aGreat
open Go.RowKit

theorem IK.il {w : World} {a : Option Addr} {X : List Int} (h : IK .i64 w a X) : IL w a X := h
theorem LP.fl {B n : Nat} {w : World} {F : List (List Int)} {a : Option Addr} {c : Nat} (h : LP .i64 e1 t1 1 30 B w F (.slice a n c) n) : FL w a F := fun j C hj => by
  obtain ⟨g, cv, a1, c1, ev, _, h1, h2, h3, h4, _⟩ := h.at (s := 1) (fun _ _ => rfl) hj
  injection ev with ev
  have := h1 0 (by decide) _ rfl
  rw [Nat.mul_one, Nat.add_zero] at this
  exact ⟨g, 0, a1, c1, ev, by rw [Nat.zero_add]; exact this, h2.il, h3, h4⟩
theorem LP.sl {B n : Nat} {w : World} {P : List (Bool × List Int)} {a : Option Addr} {c : Nat} (h : LP .i64 e2 t2 2 136 B w P (.slice a n c) n) : SL w a P := fun j s hj => by
  obtain ⟨g, cv, a1, c1, ev, _, h1, h2, h3, h4, _⟩ := h.at (s := 2) (fun _ _ => rfl) hj
  injection ev with ev
  have q0 := h1 0 (by decide) _ rfl
  have q1 := h1 1 (by decide) _ rfl
  rw [Nat.add_zero] at q0
  exact ⟨g, 0, a1, c1, ev, by rw [Nat.zero_add]; exact q0, by rw [Nat.zero_add]; exact q1, h2.il, h3, h4⟩
def CfPost (w : World) (nv : Int) (F : List (List Int)) (e : Ending) (w' : World) : Prop := ∃ v n, e = .returned (.agg #[.int .i64 nv, v]) ∧ LP .i64 e1 t1 1 30 w.heap.size w' F v n ∧ Ex (fun _ => False) w w'
def CsPost (w : World) (P : List (Bool × List Int)) (e : Ending) (w' : World) : Prop := ∃ v n, e = .returned v ∧ LP .i64 e2 t2 2 136 w.heap.size w' P v n ∧ Ex (fun _ => False) w w'
/-- an element with a new slice joins an owned row; the slice is newer than w -/
theorem LQ.join {α : Type} {k : IntKind} {enc : α → Value → List Value} {txt : α → List Int} {s T B : Nat} {X Z : Nat → Prop} {w0 w w1 w' : World} {F : List α} {v : Value} {n : Nat} (h : LQ k enc txt s T B X Z w0 w F v n) (e1 : Ex (fun _ => False) w w1) {x : α} {a : Option Addr} {m c t : Nat} (hrow : w1.ownsRow w.heap.size t 1 (.slice a m c) m ((txt x).map (Value.int k))) (hl : (txt x).length = m) {g c' : Nat} {V : List Value} (h2 : RG k enc txt w1 (fun j => v.ownBlock = some j ∨ X j) V F) (hr : w'.ownsRow B T s (.slice (some ⟨g, 0, none⟩) (n + 1) c') (n + 1) (V ++ enc x (.slice a m c))) (hg : w1.grownBy w' v.ownBlock) (hat : v.ownBlock = some g ∨ g = w1.heap.size) : LQ k enc txt s T B X Z w0 w' (F ++ [x]) (.slice (some ⟨g, 0, none⟩) (n + 1) c') (n + 1) := by
  have e : Ex (fun j => v.ownBlock = some j) w1 w' := Ex.ofGrown hg (fun _ z => z.symm)
  have hcap := row_cap hrow
  have hw0 : w0.heap.size ≤ w1.heap.size := Nat.le_trans h.ex.size e1.size
  have h0 := h.keep e1
  obtain ⟨V0, q1, q2⟩ := h.ro
  refine ⟨by rw [List.length_append, h.hn]; rfl, ⟨_, hr, ?_⟩, h0.ex.trans2 e (fun j z => h.zv j z), fun j z => ?_, fun j z q => ?_, h.xb, h.bs⟩
  · have h3 := h2.push e (fun g z => .inl (.inl z)) (D' := fun j => (Value.slice (some ⟨g, 0, none⟩) (n + 1) c').ownBlock = some j ∨ X j) (fun j z => by
      rcases z with z | z
      rotate_left
      · exact .inl (.inr z)
      simp [Value.ownBlock] at z
      subst z
      rcases hat with q | q
      · exact .inl (.inl q)
      · exact .inr (by omega)) (x := x) (a := a) (c := c) (rowk_ik hrow) (by rw [hl]; exact hcap.1) hcap.2 (fun g off ea => ⟨(hrow.lt g (own_addr hrow ea).1).2, fun z => by
        have hge := (hrow.lt g (own_addr hrow ea).1).1
        rcases z with z | z
        · have := (q1.lt g z).2; omega
        · have := h.xb g z; have := h.ex.size; omega⟩)
    rw [hl] at h3
    exact h3
  · simp [Value.ownBlock] at z
    subst z
    rcases hat with q | q
    · exact h.zv _ q
    · exact .inr (by omega)
  · simp [Value.ownBlock] at z
    subst z
    rcases hat with q1 | q1
    · exact h.xv _ q1 q
    · have := h.xb _ q; omega
set_option linter.unusedSimpArgs false in
set_option maxRecDepth 100000 in
set_option maxHeartbeats 8000000 in
/-- cnfm.CopyFormula -/
theorem copyFM_any (w : World) (nv : Int) (af : Option Addr) (cf : Nat) (F : List (List Int)) (hF : FL w af F) (hl : F.length ≤ 1000000000) (hB : FB F) :
    Calls Tryz.prog 94 #[.agg #[.int .i64 nv, .slice af F.length cf]] w (CfPost w nv F) := by
  obtain ⟨i1, hi0, hz0, hz1, hz2⟩ := info_of Tryz.info30
  have HI1 := hide (And.intro hi0 (And.intro hz0 (And.intro hz1 hz2)))
  clear hi0 hz0 hz1 hz2
  have HPo : Hid (∀ v n w', LP .i64 e1 t1 1 30 w.heap.size w' F v n → Ex (fun _ => False) w w' → CfPost w nv F (.returned (.agg #[.int .i64 nv, v])) w') := fun v n w' h1 h2 => ⟨v, n, rfl, h1, h2⟩
  obtain ⟨R, hR⟩ : ∃ R, CfPost w nv F = R := ⟨_, rfl⟩
  rw [hR] at HPo ⊢
  clear hR
  obtain ⟨n0, hn⟩ : ∃ n, F.length = n := ⟨_, rfl⟩
  have HN := hide hn
  rw [hn] at hl ⊢
  clear hn
  have HF := hide hF
  have HB := hide hB
  clear hF hB
  have HEW : Hid (Ex (fun _ => False) w (((w.alloc (.cells #[.int .i64 nv, .slice af n0 cf] 29)).alloc (.cells #[.int .i64 0, .slice none 0 0] 29)).alloc (.cells #[.int .i64 nv, .slice none 0 0] 29))) := (((Ex.refl _ w).alloc _).alloc _).alloc _
  have hsz : (((w.alloc (.cells #[.int .i64 nv, .slice af n0 cf] 29)).alloc (.cells #[.int .i64 0, .slice none 0 0] 29)).alloc (.cells #[.int .i64 nv, .slice none 0 0] 29)).heap.size = w.heap.size + 3 := by simp only [szAl]
  have HQ0 : Hid (LQ .i64 e1 t1 1 30 w.heap.size (fun j => j < w.heap.size ∨ j = w.heap.size + 1 ∨ j = w.heap.size + 1 + 1) (fun j => w.heap.size ≤ j) (((w.alloc (.cells #[.int .i64 nv, .slice af n0 cf] 29)).alloc (.cells #[.int .i64 0, .slice none 0 0] 29)).alloc (.cells #[.int .i64 nv, .slice none 0 0] 29)) (((w.alloc (.cells #[.int .i64 nv, .slice af n0 cf] 29)).alloc (.cells #[.int .i64 0, .slice none 0 0] 29)).alloc (.cells #[.int .i64 nv, .slice none 0 0] 29)) [] (.slice none 0 0) 0) := ⟨rfl, ⟨[], ⟨by simp, .inl ⟨rfl, rfl⟩⟩, .nil⟩, Ex.refl _ _, fun j h => by simp [Value.ownBlock] at h, fun j h => by simp [Value.ownBlock] at h, fun j z => by rcases z with z | z | z <;> omega, by omega⟩
  have c2 : ∀ j u, [Value.int .i64 nv, .slice none 0 0][j]? = some u → (((w.alloc (.cells #[.int .i64 nv, .slice af n0 cf] 29)).alloc (.cells #[.int .i64 0, .slice none 0 0] 29)).alloc (.cells #[.int .i64 nv, .slice none 0 0] 29)).cell? ⟨w.heap.size + 1 + 1, j, none⟩ = some u := fun j u hj => by have := new_cells ((w.alloc (.cells #[.int .i64 nv, .slice af n0 cf] 29)).alloc (.cells #[.int .i64 0, .slice none 0 0] 29)) [.int .i64 nv, .slice none 0 0] 29 j u hj; rw [szAl, szAl, Addr.add_mid, Nat.zero_add] at this; exact this
  have c1 : ∀ j u, [Value.int .i64 0, .slice none 0 0][j]? = some u → (((w.alloc (.cells #[.int .i64 nv, .slice af n0 cf] 29)).alloc (.cells #[.int .i64 0, .slice none 0 0] 29)).alloc (.cells #[.int .i64 nv, .slice none 0 0] 29)).cell? ⟨w.heap.size + 1, j, none⟩ = some u := fun j u hj => by have := new_cells (w.alloc (.cells #[.int .i64 nv, .slice af n0 cf] 29)) [.int .i64 0, .slice none 0 0] 29 j u hj; rw [szAl, Addr.add_mid, Nat.zero_add] at this; exact ((Ex.refl (fun _ => False) _).alloc _).cell (fun z => z) this
  have fq : ∀ j, (((w.alloc (.cells #[.int .i64 nv, .slice af n0 cf] 29)).alloc (.cells #[.int .i64 0, .slice none 0 0] 29)).alloc (.cells #[.int .i64 nv, .slice none 0 0] 29)).frozen? ⟨w.heap.size + 1 + 1, j, none⟩ = false := fun j => by have := frozen_new ((w.alloc (.cells #[.int .i64 nv, .slice af n0 cf] 29)).alloc (.cells #[.int .i64 0, .slice none 0 0] 29)) [.int .i64 nv, .slice none 0 0] 29 j; rw [szAl, szAl] at this; exact this
  have fr : ∀ j, (((w.alloc (.cells #[.int .i64 nv, .slice af n0 cf] 29)).alloc (.cells #[.int .i64 0, .slice none 0 0] 29)).alloc (.cells #[.int .i64 nv, .slice none 0 0] 29)).frozen? ⟨w.heap.size + 1, j, none⟩ = false := fun j => by have := frozen_new (w.alloc (.cells #[.int .i64 nv, .slice af n0 cf] 29)) [.int .i64 0, .slice none 0 0] 29 j; rw [szAl] at this; exact (((Ex.refl (fun _ => False) _).alloc _).frozen (fun z => z) (by rw [szAl, szAl]; omega)).trans this
  have f1 : (((w.alloc (.cells #[.int .i64 nv, .slice af n0 cf] 29)).alloc (.cells #[.int .i64 0, .slice none 0 0] 29)).alloc (.cells #[.int .i64 nv, .slice none 0 0] 29)).cell? ⟨w.heap.size, 1, none⟩ = some (.slice af n0 cf) := (((Ex.refl (fun _ => False) _).alloc _).alloc _).cell (fun z => z) (new_cells w [.int .i64 nv, .slice af n0 cf] 29 1 _ rfl)
  have HG0 : Hid ((((w.alloc (.cells #[.int .i64 nv, .slice af n0 cf] 29)).alloc (.cells #[.int .i64 0, .slice none 0 0] 29)).alloc (.cells #[.int .i64 nv, .slice none 0 0] 29)).cell? ⟨w.heap.size + 1 + 1, 0, none⟩ = some (.int .i64 nv) ∧ (((w.alloc (.cells #[.int .i64 nv, .slice af n0 cf] 29)).alloc (.cells #[.int .i64 0, .slice none 0 0] 29)).alloc (.cells #[.int .i64 nv, .slice none 0 0] 29)).cell? ⟨w.heap.size + 1 + 1, 1, none⟩ = some (.slice none 0 0) ∧ (∀ j, (((w.alloc (.cells #[.int .i64 nv, .slice af n0 cf] 29)).alloc (.cells #[.int .i64 0, .slice none 0 0] 29)).alloc (.cells #[.int .i64 nv, .slice none 0 0] 29)).frozen? ⟨w.heap.size + 1 + 1, j, none⟩ = false) ∧ (((w.alloc (.cells #[.int .i64 nv, .slice af n0 cf] 29)).alloc (.cells #[.int .i64 0, .slice none 0 0] 29)).alloc (.cells #[.int .i64 nv, .slice none 0 0] 29)).cell? ⟨w.heap.size + 1, 0, none⟩ = some (.int .i64 0) ∧ (((w.alloc (.cells #[.int .i64 nv, .slice af n0 cf] 29)).alloc (.cells #[.int .i64 0, .slice none 0 0] 29)).alloc (.cells #[.int .i64 nv, .slice none 0 0] 29)).cell? ⟨w.heap.size + 1, 1, none⟩ = some (.slice none 0 0) ∧ ∀ j, (((w.alloc (.cells #[.int .i64 nv, .slice af n0 cf] 29)).alloc (.cells #[.int .i64 0, .slice none 0 0] 29)).alloc (.cells #[.int .i64 nv, .slice none 0 0] 29)).frozen? ⟨w.heap.size + 1, j, none⟩ = false) := ⟨c2 0 _ rfl, c2 1 _ rfl, fq, c1 0 _ rfl, c1 1 _ rfl, fr⟩
  clear c1 c2 fq fr hsz
  go_enter Tryz.func94, Tryz.ntmps94
  go_upto_region 2 with fail
  generalize (((w.alloc (.cells #[.int .i64 nv, .slice af n0 cf] 29)).alloc (.cells #[.int .i64 0, .slice none 0 0] 29)).alloc (.cells #[.int .i64 nv, .slice none 0 0] 29)) = w1 at *
  have HQL : Hid (w.heap.size ≤ w.heap.size + 1 + 1) := by show _ ≤ _; omega
  have HRL : Hid (w.heap.size ≤ w.heap.size + 1) := by show _ ≤ _; omega
  have HNE : Hid (w.heap.size + 1 ≠ w.heap.size + 1 + 1) := by show _ ≠ _; omega
  generalize w.heap.size + 1 + 1 = q at *
  generalize w.heap.size + 1 = rb at *
  go_wp2_with fail
  go_loopw [12] (fun s12 wx => ∃ (i n cn : Nat) (an : Option Addr), s12 = .int .i64 i ∧ i ≤ n0 ∧ n ≤ i ∧ Hid (LQ .i64 e1 t1 1 30 w.heap.size (fun j => j < w.heap.size ∨ j = rb ∨ j = q) (fun j => w.heap.size ≤ j) w1 wx (F.take i) (.slice an n cn) n) ∧ Hid (wx.cell? ⟨q, 0, none⟩ = some (.int .i64 nv) ∧ wx.cell? ⟨q, 1, none⟩ = some (.slice an n cn) ∧ (∀ j, wx.frozen? ⟨q, j, none⟩ = false) ∧ wx.cell? ⟨rb, 0, none⟩ = some (.int .i64 0) ∧ wx.cell? ⟨rb, 1, none⟩ = some (.slice none 0 0) ∧ ∀ j, wx.frozen? ⟨rb, j, none⟩ = false)) (fun s12 _ => n0 - (intOf s12).toNat)
  case atStart => exact ⟨0, 0, 0, none, rfl, Nat.zero_le _, Nat.le_refl _, HQ0, HG0⟩
  case round =>
    clear HQ0 HG0 f1
    obtain ⟨i, n, cn, an, rfl, hi, hni, HQ, HG⟩ := hrel
    generalize hgw : wr = wl at *
    clear hgw
    have hw1 : wrap64 ((i : Int) + 1) = ((i + 1 : Nat) : Int) := by unfold wrap64; omega
    have HEl : Hid (Ex (fun _ => False) w wl) := HEW.out.trans2 HQ.out.ex (fun j z => .inr z)
    by_cases hlt : i < n0
    · have hib : decide ((i : Int) < (n0 : Int)) = true := decide_eq_true (by omega)
      have hii : (i : Int) < (n0 : Int) := by omega
      obtain ⟨C, hC⟩ : ∃ C, F[i]? = some C := ⟨_, List.getElem?_eq_getElem (by rw [HN.out]; exact hlt)⟩
      have HTK : Hid (F.take (i + 1) = F.take i ++ [C]) := by show _ = _; rw [List.take_add_one, hC]; rfl
      obtain ⟨g, o, a1, c1, ea, x0, hil0, -, -⟩ := (HF.out.keep HEl.out) i C hC
      subst ea
      have hil := hide hil0
      have hcl := hide (HB.out C (List.mem_of_getElem? hC)).1
      obtain ⟨cl, hcl2⟩ : ∃ z, C.length = z := ⟨_, rfl⟩
      rw [hcl2] at x0
      have hcn := hide hcl2
      clear hcl2 hC hil0 HEl
      go_upto_region 5 with fail
      clear x0
      refine wp_region_held_drew (S := fun _ => True) (by kernel_rfl) trivial (fun hHeld => ?_)
      refine wpAnyH_take (i := 0) (v := ?_) rfl (by kernel_rfl) (by kernel_rfl) (by kernel_rfl) (fun _ _ _ h => h) (Or.inl ⟨by rfl, ?_⟩) (by assumption) ?_
      rotate_left
      · (intro w hSw; (try dsimp only at hSw); go_simp; try (with_reducible rfl))
      try simp only [Act.put, List.getElem_toArray, List.getElem_cons_zero, List.getElem_cons_succ, List.setIfInBounds_toArray, List.set_cons_zero, List.set_cons_succ]
      refine wpAnyH_take (i := 2) (v := ?_) rfl (by kernel_rfl) (by kernel_rfl) (by kernel_rfl) (fun _ _ _ h => h) (Or.inl ⟨by rfl, ?_⟩) (by assumption) ?_
      rotate_left
      · (intro w hSw; (try dsimp only at hSw); go_simp; try (with_reducible rfl))
      try simp only [Act.put, List.getElem_toArray, List.getElem_cons_zero, List.getElem_cons_succ, List.setIfInBounds_toArray, List.set_cons_zero, List.set_cons_succ]
      refine wpAnyH_ready (rs := [1, 3]) (by kernel_rfl) (by simp) ?_
      refine (AllReadyH.cons rfl (fun K hK => ?_) (AllReadyH.cons rfl (fun K hK => ?_) AllReadyH.nil))
      · have g1 := HG.out.2.1
        first | (have g1b := hx5.cell (fun z => z) g1; have g1c := (Ex.of (S := fun _ => False) (be1 w5 (.cells #[.slice a5 cl c5] 30))).cell (fun z => z) g1b) | skip
        go_simp
        refine hK.out _ _ ?_ (fun hHeld => ?_)
        · trivial
        clear hK K
        try simp only [Act.put, List.getElem_toArray, List.getElem_cons_zero, List.getElem_cons_succ, List.setIfInBounds_toArray, List.set_cons_zero, List.set_cons_succ]
        refine wpAnyH_ready (rs := [3]) (by kernel_rfl) (by simp) ?_
        refine (AllReadyH.cons rfl (fun K hK => ?_) AllReadyH.nil)
        · have cc := hide (copyM_any wl.drew a1 c1 C (hil.out.keep ((Ex.refl (fun _ => False) wl).drew) (fun _ _ _ z => z)) hcl.out)
          rw [hcn.out] at cc
          refine step_call rfl 75 #[.slice a1 cl c1] (by simp [go_sem]) cc.out ?_
          rintro e w5 ⟨a5, c5, rfl, hr5, hx5⟩
          clear cc
          rw [hcn.out] at hr5 ⊢
          refine ⟨_, rfl, ?_⟩
          refine hK.out _ _ ?_ (fun hHeld => ?_)
          · trivial
          clear hK K
          try simp only [Act.put, List.getElem_toArray, List.getElem_cons_zero, List.getElem_cons_succ, List.setIfInBounds_toArray, List.set_cons_zero, List.set_cons_succ]
          refine wpAnyH_ready (rs := [4]) (by kernel_rfl) (by simp) ?_
          refine (AllReadyH.cons rfl (fun K hK => ?_) AllReadyH.nil)
          · go_simp
            refine hK.out _ _ ?_ (fun hHeld => ?_)
            · trivial
            clear hK K
            try simp only [Act.put, List.getElem_toArray, List.getElem_cons_zero, List.getElem_cons_succ, List.setIfInBounds_toArray, List.set_cons_zero, List.set_cons_succ]
            refine wpAnyH_ready (rs := [5]) (by kernel_rfl) (by simp) ?_
            refine (AllReadyH.cons rfl (fun K hK => ?_) AllReadyH.nil)
            · have HQ5 := hide ((HQ.out.keep ((Ex.refl (fun _ => False) wl).drew.trans hx5)).keep (Ex.of (be1 w5 (.cells #[.slice a5 cl c5] 30))))
              obtain ⟨V5, ho5, hv5⟩ := HQ5.out.ro
              have HO5 := hide ho5
              have HV5 := hide hv5
              clear ho5 hv5
              have HNC5 : Hid (∀ (jq : Nat) (u : Value), [Value.slice a5 cl c5][jq]? = some u → (w5.alloc (.cells #[.slice a5 cl c5] 30)).cell? ((⟨w5.heap.size, 0, none⟩ : Addr).add jq) = some u) := fun jq u hj => new_cells w5 [.slice a5 cl c5] 30 jq u hj
              refine step_append_lies _ rfl (.tmp 17) (.tmp 20) 27 rfl w.heap.size 30 i1 _ 1 24 Tryz.underlying27 HI1.out.1 HI1.out.2.1 HI1.out.2.2.1 HI1.out.2.2.2 rfl (by decide) (.slice an n cn) n V5 rfl HO5.out ⟨w5.heap.size, 0, none⟩ 1 1 [.slice a5 cl c5] rfl rfl HNC5.out (fun u hu => by simp at hu; subst hu; rfl) (by decide) (by unfold maxLen; omega) (by omega) (Nat.le_trans HQ5.out.bs HQ5.out.ex.size) _ rfl ?_
              intro g6 c6 w6 hr hg hat hlt2
              have E5 := hide ((Ex.refl (fun _ => False) wl).drew.trans hx5)
              have HQ6 := hide (HQ.out.join (x := C) (t := 3) (E5.out.alloc (.cells #[.slice a5 cl c5] 30)) (own_kept hr5 (Ex.of (S := fun _ => False) (be1 w5 _)) (fun _ _ e => e)) hcn.out HV5.out hr hg hat)
              have E6 := hide (Ex.ofGrown hg (S := fun j => Value.ownBlock (.slice an n cn) = some j) (fun _ z => z.symm))
              have HNQ : Hid (¬ Value.ownBlock (.slice an n cn) = some q) := fun z => HQ.out.xv q z (.inr (.inr rfl))
              have p1 : w6.cell? ⟨q, 1, none⟩ = some (.slice an n cn) := E6.out.cell HNQ.out ((E5.out.alloc _).cell (fun z => z) HG.out.2.1)
              have p0 : w6.cell? ⟨q, 0, none⟩ = some (.int .i64 nv) := E6.out.cell HNQ.out ((E5.out.alloc _).cell (fun z => z) HG.out.1)
              have hlq : Hid (q < (w5.alloc (.cells #[.slice a5 cl c5] 30)).heap.size) := World.block_lt_of_cell? _ _ ((E5.out.alloc (.cells #[.slice a5 cl c5] 30)).cell (fun z => z) HG.out.1)
              have pf : ∀ j, w6.frozen? ⟨q, j, none⟩ = false := fun j => (E6.out.frozen HNQ.out hlq.out).trans (((E5.out.alloc _).frozen (fun z => z) (World.block_lt_of_cell? _ _ HG.out.1)).trans (HG.out.2.2.1 j))
              have HR6 : Hid (w6.cell? ⟨rb, 0, none⟩ = some (.int .i64 0) ∧ w6.cell? ⟨rb, 1, none⟩ = some (.slice none 0 0) ∧ ∀ j, w6.frozen? ⟨rb, j, none⟩ = false) := by
                have hrb := HG.out.2.2.2
                have hnr : ¬ Value.ownBlock (.slice an n cn) = some rb := fun z => HQ.out.xv rb z (.inr (.inl rfl))
                exact ⟨E6.out.cell hnr ((E5.out.alloc _).cell (fun z => z) hrb.1), E6.out.cell hnr ((E5.out.alloc _).cell (fun z => z) hrb.2.1), fun j => (E6.out.frozen hnr (World.block_lt_of_cell? _ _ ((E5.out.alloc (.cells #[.slice a5 cl c5] 30)).cell (fun z => z) hrb.1))).trans (((E5.out.alloc _).frozen (fun z => z) (World.block_lt_of_cell? _ _ hrb.1)).trans (hrb.2.2 j))⟩
              clear hr hg hat hlt2 HQ5 HO5 HV5 HNC5 E5 E6 HNQ hlq
              refine hK.out _ _ ?_ (fun hHeld => ?_)
              · trivial
              clear hK K
              try simp only [Act.put, List.getElem_toArray, List.getElem_cons_zero, List.getElem_cons_succ, List.setIfInBounds_toArray, List.set_cons_zero, List.set_cons_succ]
              refine wpAnyH_ready (rs := [6]) (by kernel_rfl) (by simp) ?_
              refine (AllReadyH.cons rfl (fun K hK => ?_) AllReadyH.nil)
              · go_simp
                refine hK.out _ _ ?_ (fun hHeld => ?_)
                · trivial
                clear hK K
                try simp only [Act.put, List.getElem_toArray, List.getElem_cons_zero, List.getElem_cons_succ, List.setIfInBounds_toArray, List.set_cons_zero, List.set_cons_succ]
                refine wpAnyH_ready (rs := [7]) (by kernel_rfl) (by simp) ?_
                refine (AllReadyH.cons rfl (fun K hK => ?_) AllReadyH.nil)
                · go_simp
                  refine hK.out _ _ ?_ (fun hHeld => ?_)
                  · trivial
                  clear hK K
                  try simp only [Act.put, List.getElem_toArray, List.getElem_cons_zero, List.getElem_cons_succ, List.setIfInBounds_toArray, List.set_cons_zero, List.set_cons_succ]
                  refine wpAnyH_done (by kernel_rfl) ?_ _
                  have HQ7 := hide (HQ6.out.aside (S := fun j => j = q) ((Ex.refl (fun j => j = q) w6).set (p := q) (j := 1) rfl (.slice (some ⟨g6, 0, none⟩) (n + 1) c6)) (fun j z => .inr (.inr z)) (fun j z => .inl (by have := HQL.out; omega)))
                  have HG7 : Hid ((w6.setCell ⟨q, 1, none⟩ (.slice (some ⟨g6, 0, none⟩) (n + 1) c6)).cell? ⟨q, 0, none⟩ = some (.int .i64 nv) ∧ (w6.setCell ⟨q, 1, none⟩ (.slice (some ⟨g6, 0, none⟩) (n + 1) c6)).cell? ⟨q, 1, none⟩ = some (.slice (some ⟨g6, 0, none⟩) (n + 1) c6) ∧ (∀ j, (w6.setCell ⟨q, 1, none⟩ (.slice (some ⟨g6, 0, none⟩) (n + 1) c6)).frozen? ⟨q, j, none⟩ = false) ∧ (w6.setCell ⟨q, 1, none⟩ (.slice (some ⟨g6, 0, none⟩) (n + 1) c6)).cell? ⟨rb, 0, none⟩ = some (.int .i64 0) ∧ (w6.setCell ⟨q, 1, none⟩ (.slice (some ⟨g6, 0, none⟩) (n + 1) c6)).cell? ⟨rb, 1, none⟩ = some (.slice none 0 0) ∧ ∀ j, (w6.setCell ⟨q, 1, none⟩ (.slice (some ⟨g6, 0, none⟩) (n + 1) c6)).frozen? ⟨rb, j, none⟩ = false) := ⟨set_oth p0 (.inr (by decide)), World.cell?_setCell_same _ _ _ p1, fun j => by rw [set_frozen]; exact pf j, set_oth HR6.out.1 (.inl HNE.out), set_oth HR6.out.2.1 (.inl HNE.out), fun j => by rw [set_frozen]; exact HR6.out.2.2 j⟩
                  rw [← HTK.out] at HQ7
                  clear HQ HQ6 HR6 p0 p1 pf hx5 hr5 HG hil
                  go_wp2
                  go_roundw
                  case rel => exact ⟨i + 1, n + 1, _, _, by go_num, by omega, by omega, HQ7, HG7⟩
                  case measure => (simp [intOf]; try omega)
      · have cc := hide (copyM_any wl.drew a1 c1 C (hil.out.keep ((Ex.refl (fun _ => False) wl).drew) (fun _ _ _ z => z)) hcl.out)
        rw [hcn.out] at cc
        refine step_call rfl 75 #[.slice a1 cl c1] (by simp [go_sem]) cc.out ?_
        rintro e w5 ⟨a5, c5, rfl, hr5, hx5⟩
        clear cc
        rw [hcn.out] at hr5 ⊢
        refine ⟨_, rfl, ?_⟩
        refine hK.out _ _ ?_ (fun hHeld => ?_)
        · trivial
        clear hK K
        try simp only [Act.put, List.getElem_toArray, List.getElem_cons_zero, List.getElem_cons_succ, List.setIfInBounds_toArray, List.set_cons_zero, List.set_cons_succ]
        refine wpAnyH_ready (rs := [1, 4]) (by kernel_rfl) (by simp) ?_
        refine (AllReadyH.cons rfl (fun K hK => ?_) (AllReadyH.cons rfl (fun K hK => ?_) AllReadyH.nil))
        · have g1 := HG.out.2.1
          first | (have g1b := hx5.cell (fun z => z) g1; have g1c := (Ex.of (S := fun _ => False) (be1 w5 (.cells #[.slice a5 cl c5] 30))).cell (fun z => z) g1b) | skip
          go_simp
          refine hK.out _ _ ?_ (fun hHeld => ?_)
          · trivial
          clear hK K
          try simp only [Act.put, List.getElem_toArray, List.getElem_cons_zero, List.getElem_cons_succ, List.setIfInBounds_toArray, List.set_cons_zero, List.set_cons_succ]
          refine wpAnyH_ready (rs := [4]) (by kernel_rfl) (by simp) ?_
          refine (AllReadyH.cons rfl (fun K hK => ?_) AllReadyH.nil)
          · go_simp
            refine hK.out _ _ ?_ (fun hHeld => ?_)
            · trivial
            clear hK K
            try simp only [Act.put, List.getElem_toArray, List.getElem_cons_zero, List.getElem_cons_succ, List.setIfInBounds_toArray, List.set_cons_zero, List.set_cons_succ]
            refine wpAnyH_ready (rs := [5]) (by kernel_rfl) (by simp) ?_
            refine (AllReadyH.cons rfl (fun K hK => ?_) AllReadyH.nil)
            · have HQ5 := hide ((HQ.out.keep ((Ex.refl (fun _ => False) wl).drew.trans hx5)).keep (Ex.of (be1 w5 (.cells #[.slice a5 cl c5] 30))))
              obtain ⟨V5, ho5, hv5⟩ := HQ5.out.ro
              have HO5 := hide ho5
              have HV5 := hide hv5
              clear ho5 hv5
              have HNC5 : Hid (∀ (jq : Nat) (u : Value), [Value.slice a5 cl c5][jq]? = some u → (w5.alloc (.cells #[.slice a5 cl c5] 30)).cell? ((⟨w5.heap.size, 0, none⟩ : Addr).add jq) = some u) := fun jq u hj => new_cells w5 [.slice a5 cl c5] 30 jq u hj
              refine step_append_lies _ rfl (.tmp 17) (.tmp 20) 27 rfl w.heap.size 30 i1 _ 1 24 Tryz.underlying27 HI1.out.1 HI1.out.2.1 HI1.out.2.2.1 HI1.out.2.2.2 rfl (by decide) (.slice an n cn) n V5 rfl HO5.out ⟨w5.heap.size, 0, none⟩ 1 1 [.slice a5 cl c5] rfl rfl HNC5.out (fun u hu => by simp at hu; subst hu; rfl) (by decide) (by unfold maxLen; omega) (by omega) (Nat.le_trans HQ5.out.bs HQ5.out.ex.size) _ rfl ?_
              intro g6 c6 w6 hr hg hat hlt2
              have E5 := hide ((Ex.refl (fun _ => False) wl).drew.trans hx5)
              have HQ6 := hide (HQ.out.join (x := C) (t := 3) (E5.out.alloc (.cells #[.slice a5 cl c5] 30)) (own_kept hr5 (Ex.of (S := fun _ => False) (be1 w5 _)) (fun _ _ e => e)) hcn.out HV5.out hr hg hat)
              have E6 := hide (Ex.ofGrown hg (S := fun j => Value.ownBlock (.slice an n cn) = some j) (fun _ z => z.symm))
              have HNQ : Hid (¬ Value.ownBlock (.slice an n cn) = some q) := fun z => HQ.out.xv q z (.inr (.inr rfl))
              have p1 : w6.cell? ⟨q, 1, none⟩ = some (.slice an n cn) := E6.out.cell HNQ.out ((E5.out.alloc _).cell (fun z => z) HG.out.2.1)
              have p0 : w6.cell? ⟨q, 0, none⟩ = some (.int .i64 nv) := E6.out.cell HNQ.out ((E5.out.alloc _).cell (fun z => z) HG.out.1)
              have hlq : Hid (q < (w5.alloc (.cells #[.slice a5 cl c5] 30)).heap.size) := World.block_lt_of_cell? _ _ ((E5.out.alloc (.cells #[.slice a5 cl c5] 30)).cell (fun z => z) HG.out.1)
              have pf : ∀ j, w6.frozen? ⟨q, j, none⟩ = false := fun j => (E6.out.frozen HNQ.out hlq.out).trans (((E5.out.alloc _).frozen (fun z => z) (World.block_lt_of_cell? _ _ HG.out.1)).trans (HG.out.2.2.1 j))
              have HR6 : Hid (w6.cell? ⟨rb, 0, none⟩ = some (.int .i64 0) ∧ w6.cell? ⟨rb, 1, none⟩ = some (.slice none 0 0) ∧ ∀ j, w6.frozen? ⟨rb, j, none⟩ = false) := by
                have hrb := HG.out.2.2.2
                have hnr : ¬ Value.ownBlock (.slice an n cn) = some rb := fun z => HQ.out.xv rb z (.inr (.inl rfl))
                exact ⟨E6.out.cell hnr ((E5.out.alloc _).cell (fun z => z) hrb.1), E6.out.cell hnr ((E5.out.alloc _).cell (fun z => z) hrb.2.1), fun j => (E6.out.frozen hnr (World.block_lt_of_cell? _ _ ((E5.out.alloc (.cells #[.slice a5 cl c5] 30)).cell (fun z => z) hrb.1))).trans (((E5.out.alloc _).frozen (fun z => z) (World.block_lt_of_cell? _ _ hrb.1)).trans (hrb.2.2 j))⟩
              clear hr hg hat hlt2 HQ5 HO5 HV5 HNC5 E5 E6 HNQ hlq
              refine hK.out _ _ ?_ (fun hHeld => ?_)
              · trivial
              clear hK K
              try simp only [Act.put, List.getElem_toArray, List.getElem_cons_zero, List.getElem_cons_succ, List.setIfInBounds_toArray, List.set_cons_zero, List.set_cons_succ]
              refine wpAnyH_ready (rs := [6]) (by kernel_rfl) (by simp) ?_
              refine (AllReadyH.cons rfl (fun K hK => ?_) AllReadyH.nil)
              · go_simp
                refine hK.out _ _ ?_ (fun hHeld => ?_)
                · trivial
                clear hK K
                try simp only [Act.put, List.getElem_toArray, List.getElem_cons_zero, List.getElem_cons_succ, List.setIfInBounds_toArray, List.set_cons_zero, List.set_cons_succ]
                refine wpAnyH_ready (rs := [7]) (by kernel_rfl) (by simp) ?_
                refine (AllReadyH.cons rfl (fun K hK => ?_) AllReadyH.nil)
                · go_simp
                  refine hK.out _ _ ?_ (fun hHeld => ?_)
                  · trivial
                  clear hK K
                  try simp only [Act.put, List.getElem_toArray, List.getElem_cons_zero, List.getElem_cons_succ, List.setIfInBounds_toArray, List.set_cons_zero, List.set_cons_succ]
                  refine wpAnyH_done (by kernel_rfl) ?_ _
                  have HQ7 := hide (HQ6.out.aside (S := fun j => j = q) ((Ex.refl (fun j => j = q) w6).set (p := q) (j := 1) rfl (.slice (some ⟨g6, 0, none⟩) (n + 1) c6)) (fun j z => .inr (.inr z)) (fun j z => .inl (by have := HQL.out; omega)))
                  have HG7 : Hid ((w6.setCell ⟨q, 1, none⟩ (.slice (some ⟨g6, 0, none⟩) (n + 1) c6)).cell? ⟨q, 0, none⟩ = some (.int .i64 nv) ∧ (w6.setCell ⟨q, 1, none⟩ (.slice (some ⟨g6, 0, none⟩) (n + 1) c6)).cell? ⟨q, 1, none⟩ = some (.slice (some ⟨g6, 0, none⟩) (n + 1) c6) ∧ (∀ j, (w6.setCell ⟨q, 1, none⟩ (.slice (some ⟨g6, 0, none⟩) (n + 1) c6)).frozen? ⟨q, j, none⟩ = false) ∧ (w6.setCell ⟨q, 1, none⟩ (.slice (some ⟨g6, 0, none⟩) (n + 1) c6)).cell? ⟨rb, 0, none⟩ = some (.int .i64 0) ∧ (w6.setCell ⟨q, 1, none⟩ (.slice (some ⟨g6, 0, none⟩) (n + 1) c6)).cell? ⟨rb, 1, none⟩ = some (.slice none 0 0) ∧ ∀ j, (w6.setCell ⟨q, 1, none⟩ (.slice (some ⟨g6, 0, none⟩) (n + 1) c6)).frozen? ⟨rb, j, none⟩ = false) := ⟨set_oth p0 (.inr (by decide)), World.cell?_setCell_same _ _ _ p1, fun j => by rw [set_frozen]; exact pf j, set_oth HR6.out.1 (.inl HNE.out), set_oth HR6.out.2.1 (.inl HNE.out), fun j => by rw [set_frozen]; exact HR6.out.2.2 j⟩
                  rw [← HTK.out] at HQ7
                  clear HQ HQ6 HR6 p0 p1 pf hx5 hr5 HG hil
                  go_wp2
                  go_roundw
                  case rel => exact ⟨i + 1, n + 1, _, _, by go_num, by omega, by omega, HQ7, HG7⟩
                  case measure => (simp [intOf]; try omega)
        · go_simp
          refine hK.out _ _ ?_ (fun hHeld => ?_)
          · trivial
          clear hK K
          try simp only [Act.put, List.getElem_toArray, List.getElem_cons_zero, List.getElem_cons_succ, List.setIfInBounds_toArray, List.set_cons_zero, List.set_cons_succ]
          refine wpAnyH_ready (rs := [1]) (by kernel_rfl) (by simp) ?_
          refine (AllReadyH.cons rfl (fun K hK => ?_) AllReadyH.nil)
          · have g1 := HG.out.2.1
            first | (have g1b := hx5.cell (fun z => z) g1; have g1c := (Ex.of (S := fun _ => False) (be1 w5 (.cells #[.slice a5 cl c5] 30))).cell (fun z => z) g1b) | skip
            go_simp
            refine hK.out _ _ ?_ (fun hHeld => ?_)
            · trivial
            clear hK K
            try simp only [Act.put, List.getElem_toArray, List.getElem_cons_zero, List.getElem_cons_succ, List.setIfInBounds_toArray, List.set_cons_zero, List.set_cons_succ]
            refine wpAnyH_ready (rs := [5]) (by kernel_rfl) (by simp) ?_
            refine (AllReadyH.cons rfl (fun K hK => ?_) AllReadyH.nil)
            · have HQ5 := hide ((HQ.out.keep ((Ex.refl (fun _ => False) wl).drew.trans hx5)).keep (Ex.of (be1 w5 (.cells #[.slice a5 cl c5] 30))))
              obtain ⟨V5, ho5, hv5⟩ := HQ5.out.ro
              have HO5 := hide ho5
              have HV5 := hide hv5
              clear ho5 hv5
              have HNC5 : Hid (∀ (jq : Nat) (u : Value), [Value.slice a5 cl c5][jq]? = some u → (w5.alloc (.cells #[.slice a5 cl c5] 30)).cell? ((⟨w5.heap.size, 0, none⟩ : Addr).add jq) = some u) := fun jq u hj => new_cells w5 [.slice a5 cl c5] 30 jq u hj
              refine step_append_lies _ rfl (.tmp 17) (.tmp 20) 27 rfl w.heap.size 30 i1 _ 1 24 Tryz.underlying27 HI1.out.1 HI1.out.2.1 HI1.out.2.2.1 HI1.out.2.2.2 rfl (by decide) (.slice an n cn) n V5 rfl HO5.out ⟨w5.heap.size, 0, none⟩ 1 1 [.slice a5 cl c5] rfl rfl HNC5.out (fun u hu => by simp at hu; subst hu; rfl) (by decide) (by unfold maxLen; omega) (by omega) (Nat.le_trans HQ5.out.bs HQ5.out.ex.size) _ rfl ?_
              intro g6 c6 w6 hr hg hat hlt2
              have E5 := hide ((Ex.refl (fun _ => False) wl).drew.trans hx5)
              have HQ6 := hide (HQ.out.join (x := C) (t := 3) (E5.out.alloc (.cells #[.slice a5 cl c5] 30)) (own_kept hr5 (Ex.of (S := fun _ => False) (be1 w5 _)) (fun _ _ e => e)) hcn.out HV5.out hr hg hat)
              have E6 := hide (Ex.ofGrown hg (S := fun j => Value.ownBlock (.slice an n cn) = some j) (fun _ z => z.symm))
              have HNQ : Hid (¬ Value.ownBlock (.slice an n cn) = some q) := fun z => HQ.out.xv q z (.inr (.inr rfl))
              have p1 : w6.cell? ⟨q, 1, none⟩ = some (.slice an n cn) := E6.out.cell HNQ.out ((E5.out.alloc _).cell (fun z => z) HG.out.2.1)
              have p0 : w6.cell? ⟨q, 0, none⟩ = some (.int .i64 nv) := E6.out.cell HNQ.out ((E5.out.alloc _).cell (fun z => z) HG.out.1)
              have hlq : Hid (q < (w5.alloc (.cells #[.slice a5 cl c5] 30)).heap.size) := World.block_lt_of_cell? _ _ ((E5.out.alloc (.cells #[.slice a5 cl c5] 30)).cell (fun z => z) HG.out.1)
              have pf : ∀ j, w6.frozen? ⟨q, j, none⟩ = false := fun j => (E6.out.frozen HNQ.out hlq.out).trans (((E5.out.alloc _).frozen (fun z => z) (World.block_lt_of_cell? _ _ HG.out.1)).trans (HG.out.2.2.1 j))
              have HR6 : Hid (w6.cell? ⟨rb, 0, none⟩ = some (.int .i64 0) ∧ w6.cell? ⟨rb, 1, none⟩ = some (.slice none 0 0) ∧ ∀ j, w6.frozen? ⟨rb, j, none⟩ = false) := by
                have hrb := HG.out.2.2.2
                have hnr : ¬ Value.ownBlock (.slice an n cn) = some rb := fun z => HQ.out.xv rb z (.inr (.inl rfl))
                exact ⟨E6.out.cell hnr ((E5.out.alloc _).cell (fun z => z) hrb.1), E6.out.cell hnr ((E5.out.alloc _).cell (fun z => z) hrb.2.1), fun j => (E6.out.frozen hnr (World.block_lt_of_cell? _ _ ((E5.out.alloc (.cells #[.slice a5 cl c5] 30)).cell (fun z => z) hrb.1))).trans (((E5.out.alloc _).frozen (fun z => z) (World.block_lt_of_cell? _ _ hrb.1)).trans (hrb.2.2 j))⟩
              clear hr hg hat hlt2 HQ5 HO5 HV5 HNC5 E5 E6 HNQ hlq
              refine hK.out _ _ ?_ (fun hHeld => ?_)
              · trivial
              clear hK K
              try simp only [Act.put, List.getElem_toArray, List.getElem_cons_zero, List.getElem_cons_succ, List.setIfInBounds_toArray, List.set_cons_zero, List.set_cons_succ]
              refine wpAnyH_ready (rs := [6]) (by kernel_rfl) (by simp) ?_
              refine (AllReadyH.cons rfl (fun K hK => ?_) AllReadyH.nil)
              · go_simp
                refine hK.out _ _ ?_ (fun hHeld => ?_)
                · trivial
                clear hK K
                try simp only [Act.put, List.getElem_toArray, List.getElem_cons_zero, List.getElem_cons_succ, List.setIfInBounds_toArray, List.set_cons_zero, List.set_cons_succ]
                refine wpAnyH_ready (rs := [7]) (by kernel_rfl) (by simp) ?_
                refine (AllReadyH.cons rfl (fun K hK => ?_) AllReadyH.nil)
                · go_simp
                  refine hK.out _ _ ?_ (fun hHeld => ?_)
                  · trivial
                  clear hK K
                  try simp only [Act.put, List.getElem_toArray, List.getElem_cons_zero, List.getElem_cons_succ, List.setIfInBounds_toArray, List.set_cons_zero, List.set_cons_succ]
                  refine wpAnyH_done (by kernel_rfl) ?_ _
                  have HQ7 := hide (HQ6.out.aside (S := fun j => j = q) ((Ex.refl (fun j => j = q) w6).set (p := q) (j := 1) rfl (.slice (some ⟨g6, 0, none⟩) (n + 1) c6)) (fun j z => .inr (.inr z)) (fun j z => .inl (by have := HQL.out; omega)))
                  have HG7 : Hid ((w6.setCell ⟨q, 1, none⟩ (.slice (some ⟨g6, 0, none⟩) (n + 1) c6)).cell? ⟨q, 0, none⟩ = some (.int .i64 nv) ∧ (w6.setCell ⟨q, 1, none⟩ (.slice (some ⟨g6, 0, none⟩) (n + 1) c6)).cell? ⟨q, 1, none⟩ = some (.slice (some ⟨g6, 0, none⟩) (n + 1) c6) ∧ (∀ j, (w6.setCell ⟨q, 1, none⟩ (.slice (some ⟨g6, 0, none⟩) (n + 1) c6)).frozen? ⟨q, j, none⟩ = false) ∧ (w6.setCell ⟨q, 1, none⟩ (.slice (some ⟨g6, 0, none⟩) (n + 1) c6)).cell? ⟨rb, 0, none⟩ = some (.int .i64 0) ∧ (w6.setCell ⟨q, 1, none⟩ (.slice (some ⟨g6, 0, none⟩) (n + 1) c6)).cell? ⟨rb, 1, none⟩ = some (.slice none 0 0) ∧ ∀ j, (w6.setCell ⟨q, 1, none⟩ (.slice (some ⟨g6, 0, none⟩) (n + 1) c6)).frozen? ⟨rb, j, none⟩ = false) := ⟨set_oth p0 (.inr (by decide)), World.cell?_setCell_same _ _ _ p1, fun j => by rw [set_frozen]; exact pf j, set_oth HR6.out.1 (.inl HNE.out), set_oth HR6.out.2.1 (.inl HNE.out), fun j => by rw [set_frozen]; exact HR6.out.2.2 j⟩
                  rw [← HTK.out] at HQ7
                  clear HQ HQ6 HR6 p0 p1 pf hx5 hr5 HG hil
                  go_wp2
                  go_roundw
                  case rel => exact ⟨i + 1, n + 1, _, _, by go_num, by omega, by omega, HQ7, HG7⟩
                  case measure => (simp [intOf]; try omega)
    · have hib : decide ((i : Int) < (n0 : Int)) = false := decide_eq_false (by omega)
      have hin : ¬ (i : Int) < (n0 : Int) := by omega
      rw [List.take_of_length_le (by rw [HN.out]; omega)] at HQ
      obtain ⟨g0, g1, gf, r0, r1, rf⟩ := HG.out
      have e2 : Ex (fun j => j = rb) wl ((wl.setCell ⟨rb, 0, none⟩ (.int .i64 nv)).setCell ⟨rb, 1, none⟩ (.slice an n cn)) := ((Ex.refl (fun j => j = rb) wl).set (p := rb) rfl _).set (p := rb) rfl _
      have HPO := hide (HPo.out (.slice an n cn) n _ ((HQ.out.aside e2 (fun j z => .inr (.inl z)) (fun j z => .inl (by have := HRL.out; omega))).lp (fun j z => .inl z)) (HEl.out.trans2 e2 (fun j z => .inr (by have := HRL.out; omega))))
      clear e2 HQ HG HPo gf HEl
      go_wp2_with (with_reducible refine bodyPost_ret (v := .agg #[.int .i64 nv, .slice an n cn]) ?hr ?hd ?hp)
      case hr => simp [results, Tryz.results94, go_sem, r0, r1]
      case hd => rfl
      case hp => exact HPO.out
set_option linter.unusedSimpArgs false in
set_option maxRecDepth 100000 in
set_option maxHeartbeats 8000000 in
/-- cnfm.CopySteps -/
theorem copySM_any (w : World) (af : Option Addr) (cf : Nat) (P : List (Bool × List Int)) (hF : SL w af P) (hl : P.length ≤ 1000000000) (hB : SB P) :
    Calls Tryz.prog 95 #[.slice af P.length cf] w (CsPost w P) := by
  obtain ⟨i1, hi0, hz0, hz1, hz2⟩ := info_of Tryz.info136
  have HI1 := hide (And.intro hi0 (And.intro hz0 (And.intro hz1 hz2)))
  clear hi0 hz0 hz1 hz2
  have HPo : Hid (∀ v n w', LP .i64 e2 t2 2 136 w.heap.size w' P v n → Ex (fun _ => False) w w' → CsPost w P (.returned v) w') := fun v n w' h1 h2 => ⟨v, n, rfl, h1, h2⟩
  obtain ⟨R, hR⟩ : ∃ R, CsPost w P = R := ⟨_, rfl⟩
  rw [hR] at HPo ⊢
  clear hR
  obtain ⟨n0, hn⟩ : ∃ n, P.length = n := ⟨_, rfl⟩
  have HN := hide hn
  rw [hn] at hl ⊢
  clear hn
  have HF := hide hF
  have HB := hide hB
  clear hF hB
  have HQ0 : Hid (LQ .i64 e2 t2 2 136 w.heap.size (fun j => j < w.heap.size) (fun _ => False) w (w.alloc (.cells #[] 136)) [] (.slice (some ⟨w.heap.size, 0, none⟩) 0 0) 0) := LQ.zero
  go_enter Tryz.func95, Tryz.ntmps95
  go_upto_region 2 with fail
  generalize w.alloc (.cells #[] 136) = w1 at *
  go_wp2_with fail
  go_loopw [3, 9] (fun s3 s9 wx => ∃ (i n cn : Nat) (an : Option Addr), s9 = .int .i64 i ∧ s3 = .slice an n cn ∧ i ≤ n0 ∧ n ≤ i ∧ Hid (LQ .i64 e2 t2 2 136 w.heap.size (fun j => j < w.heap.size) (fun _ => False) w wx (P.take i) (.slice an n cn) n)) (fun _ s9 _ => n0 - (intOf s9).toNat)
  case atStart => exact ⟨0, 0, 0, _, rfl, rfl, Nat.zero_le _, Nat.le_refl _, HQ0⟩
  case round =>
    clear HQ0
    obtain ⟨i, n, cn, an, rfl, rfl, hi, hni, HQl⟩ := hrel
    generalize hgw : wr = wl at *
    clear hgw
    have hw1 : wrap64 ((i : Int) + 1) = ((i + 1 : Nat) : Int) := by unfold wrap64; omega
    by_cases hlt : i < n0
    · have hib : decide ((i : Int) < (n0 : Int)) = true := decide_eq_true (by omega)
      have hii : (i : Int) < (n0 : Int) := by omega
      obtain ⟨⟨d, C⟩, hC⟩ : ∃ C, P[i]? = some C := ⟨_, List.getElem?_eq_getElem (by rw [HN.out]; exact hlt)⟩
      have HTK : Hid (P.take (i + 1) = P.take i ++ [(d, C)]) := by show _ = _; rw [List.take_add_one, hC]; rfl
      obtain ⟨g, o, a1, c1, ea, x0, x1, hil0, -, -⟩ := (HF.out.keep HQl.out.ex) i _ hC
      subst ea
      dsimp only at x0 x1 hil0
      have hcl := hide (HB.out _ (List.mem_of_getElem? hC)).1
      dsimp only at hcl
      obtain ⟨cl, hcl2⟩ : ∃ z, C.length = z := ⟨_, rfl⟩
      rw [hcl2] at x1
      have hcn := hide hcl2
      clear hcl2 hC
      have f0 : (wl.alloc (.cells #[.bool d, .slice a1 cl c1] 136)).cell? ⟨wl.heap.size, 0, none⟩ = some (.bool d) := new_cells wl [.bool d, .slice a1 cl c1] 136 0 _ rfl
      have f1 : (wl.alloc (.cells #[.bool d, .slice a1 cl c1] 136)).cell? ⟨wl.heap.size, 1, none⟩ = some (.slice a1 cl c1) := new_cells wl [.bool d, .slice a1 cl c1] 136 1 _ rfl
      have HQ := hide (HQl.out.keep (Ex.of (be1 wl (.cells #[.bool d, .slice a1 cl c1] 136))))
      have hil := hide (hil0.keep (Ex.of (S := fun _ => False) (be1 wl (.cells #[.bool d, .slice a1 cl c1] 136))) (fun _ _ _ z => z))
      have HNB : Hid (¬ Value.ownBlock (.slice an n cn) = some wl.heap.size) := fun z => by obtain ⟨V, q1, _⟩ := HQl.out.ro; exact Nat.lt_irrefl _ (q1.lt _ z).2
      go_upto_region 5 with fail
      clear x0 x1 HQl hil0
      generalize wl.alloc (.cells #[.bool d, .slice a1 cl c1] 136) = wt at *
      generalize wl.heap.size = bt at *
      refine wp_region_held_drew (S := fun w' => w'.cell? ⟨bt, 0, none⟩ = some (.bool d) ∧ w'.cell? ⟨bt, 1, none⟩ = some (.slice a1 cl c1)) (by kernel_rfl) ⟨f0, f1⟩ (fun hHeld => ?_)
      refine wpAnyH_take (i := 0) (v := ?_) rfl (by kernel_rfl) (by kernel_rfl) (by kernel_rfl) (fun _ _ _ h => h) (Or.inl ⟨by rfl, ?_⟩) (by assumption) ?_
      rotate_left
      · (intro w hSw; (try dsimp only at hSw); go_simp; try (with_reducible rfl))
      try simp only [Act.put, List.getElem_toArray, List.getElem_cons_zero, List.getElem_cons_succ, List.setIfInBounds_toArray, List.set_cons_zero, List.set_cons_succ]
      refine wpAnyH_take (i := 1) (v := ?_) rfl (by kernel_rfl) (by kernel_rfl) (by kernel_rfl) (fun _ _ _ h => h) (Or.inl ⟨by rfl, ?_⟩) (by assumption) ?_
      rotate_left
      · (intro w hSw; (try dsimp only at hSw); go_simp; try (with_reducible rfl))
      try simp only [Act.put, List.getElem_toArray, List.getElem_cons_zero, List.getElem_cons_succ, List.setIfInBounds_toArray, List.set_cons_zero, List.set_cons_succ]
      refine wpAnyH_take (i := 2) (v := ?_) rfl (by kernel_rfl) (by kernel_rfl) (by kernel_rfl) (fun _ _ _ h => h) (Or.inl ⟨by rfl, ?_⟩) (by assumption) ?_
      rotate_left
      · (intro w hSw; (try dsimp only at hSw); (obtain ⟨z0, z1⟩ := hSw); go_simp; try (with_reducible rfl))
      try simp only [Act.put, List.getElem_toArray, List.getElem_cons_zero, List.getElem_cons_succ, List.setIfInBounds_toArray, List.set_cons_zero, List.set_cons_succ]
      refine wpAnyH_take (i := 3) (v := ?_) rfl (by kernel_rfl) (by kernel_rfl) (by kernel_rfl) (fun _ _ _ h => h) (Or.inl ⟨by rfl, ?_⟩) (by assumption) ?_
      rotate_left
      · (intro w hSw; (try dsimp only at hSw); go_simp; try (with_reducible rfl))
      try simp only [Act.put, List.getElem_toArray, List.getElem_cons_zero, List.getElem_cons_succ, List.setIfInBounds_toArray, List.set_cons_zero, List.set_cons_succ]
      refine wpAnyH_take (i := 4) (v := ?_) rfl (by kernel_rfl) (by kernel_rfl) (by kernel_rfl) (fun _ _ _ h => h) (Or.inl ⟨by rfl, ?_⟩) (by assumption) ?_
      rotate_left
      · (intro w hSw; (try dsimp only at hSw); (obtain ⟨z0, z1⟩ := hSw); go_simp; try (with_reducible rfl))
      try simp only [Act.put, List.getElem_toArray, List.getElem_cons_zero, List.getElem_cons_succ, List.setIfInBounds_toArray, List.set_cons_zero, List.set_cons_succ]
      refine wpAnyH_ready (rs := [5]) (by kernel_rfl) (by simp) ?_
      refine (AllReadyH.cons rfl (fun K hK => ?_) AllReadyH.nil)
      · have cc := hide (copyM_any wt.drew a1 c1 C (hil.out.keep ((Ex.refl (fun _ => False) wt).drew) (fun _ _ _ z => z)) hcl.out)
        rw [hcn.out] at cc
        refine step_call rfl 75 #[.slice a1 cl c1] (by simp [go_sem]) cc.out ?_
        rintro e w5 ⟨a5, c5, rfl, hr5, hx5⟩
        clear cc
        rw [hcn.out] at hr5 ⊢
        have K1 : Hid (w5.cell? ⟨bt, 0, none⟩ = some (.bool d) ∧ w5.cell? ⟨bt, 1, none⟩ = some (.slice a1 cl c1)) := ⟨hx5.cell (fun z => z) f0, hx5.cell (fun z => z) f1⟩
        have K2 : Hid ((w5.alloc (.cells #[.bool d, .slice a5 cl c5] 136)).cell? ⟨bt, 0, none⟩ = some (.bool d) ∧ (w5.alloc (.cells #[.bool d, .slice a5 cl c5] 136)).cell? ⟨bt, 1, none⟩ = some (.slice a1 cl c1)) := ⟨(Ex.of (S := fun _ => False) (be1 w5 _)).cell (fun z => z) K1.out.1, (Ex.of (S := fun _ => False) (be1 w5 _)).cell (fun z => z) K1.out.2⟩
        refine ⟨_, rfl, ?_⟩
        refine hK.out _ _ ?_ (fun hHeld => ?_)
        · (first | with_reducible exact K1.out | with_reducible exact K2.out | with_reducible exact K3.out)
        clear hK K
        try simp only [Act.put, List.getElem_toArray, List.getElem_cons_zero, List.getElem_cons_succ, List.setIfInBounds_toArray, List.set_cons_zero, List.set_cons_succ]
        refine wpAnyH_take (i := 6) (v := ?_) rfl (by kernel_rfl) (by kernel_rfl) (by kernel_rfl) (fun _ _ _ h => h) (Or.inl ⟨by rfl, ?_⟩) (by assumption) ?_
        rotate_left
        · (intro w hSw; (try dsimp only at hSw); go_simp; try (with_reducible rfl))
        try simp only [Act.put, List.getElem_toArray, List.getElem_cons_zero, List.getElem_cons_succ, List.setIfInBounds_toArray, List.set_cons_zero, List.set_cons_succ]
        refine wpAnyH_ready (rs := [7]) (by kernel_rfl) (by simp) ?_
        refine (AllReadyH.cons rfl (fun K hK => ?_) AllReadyH.nil)
        · go_simp
          refine hK.out _ _ ?_ (fun hHeld => ?_)
          · (first | with_reducible exact K1.out | with_reducible exact K2.out | with_reducible exact K3.out)
          clear hK K
          try simp only [Act.put, List.getElem_toArray, List.getElem_cons_zero, List.getElem_cons_succ, List.setIfInBounds_toArray, List.set_cons_zero, List.set_cons_succ]
          refine wpAnyH_ready (rs := [8]) (by kernel_rfl) (by simp) ?_
          refine (AllReadyH.cons rfl (fun K hK => ?_) AllReadyH.nil)
          · have HQ5 := hide ((HQ.out.keep ((Ex.refl (fun _ => False) wt).drew.trans hx5)).keep (Ex.of (be1 w5 (.cells #[.bool d, .slice a5 cl c5] 136))))
            obtain ⟨V5, ho5, hv5⟩ := HQ5.out.ro
            have HO5 := hide ho5
            have HV5 := hide hv5
            clear ho5 hv5
            have HNC5 : Hid (∀ (jq : Nat) (u : Value), [Value.bool d, .slice a5 cl c5][jq]? = some u → (w5.alloc (.cells #[.bool d, .slice a5 cl c5] 136)).cell? ((⟨w5.heap.size, 0, none⟩ : Addr).add jq) = some u) := fun jq u hj => new_cells w5 [.bool d, .slice a5 cl c5] 136 jq u hj
            refine step_append_lies _ rfl (.tmp 13) (.tmp 20) 31 rfl w.heap.size 136 i1 _ 2 32 Tryz.underlying31 HI1.out.1 HI1.out.2.1 HI1.out.2.2.1 HI1.out.2.2.2 rfl (by decide) (.slice an n cn) n V5 rfl HO5.out ⟨w5.heap.size, 0, none⟩ 1 1 [.bool d, .slice a5 cl c5] rfl rfl HNC5.out (fun u hu => by simp at hu; rcases hu with hu | hu <;> (subst hu; rfl)) (by decide) (by unfold maxLen; omega) (by omega) (Nat.le_trans HQ5.out.bs HQ5.out.ex.size) _ rfl ?_
            intro g6 c6 w6 hr hg hat hlt2
            have E5 := hide ((Ex.refl (fun _ => False) wt).drew.trans hx5)
            have HQ6 := hide (HQ.out.join (x := (d, C)) (t := 3) (E5.out.alloc (.cells #[.bool d, .slice a5 cl c5] 136)) (own_kept hr5 (Ex.of (S := fun _ => False) (be1 w5 _)) (fun _ _ e => e)) hcn.out HV5.out hr hg hat)
            have E6 := hide (Ex.ofGrown hg (S := fun j => Value.ownBlock (.slice an n cn) = some j) (fun _ z => z.symm))
            have K3 : Hid (w6.cell? ⟨bt, 0, none⟩ = some (.bool d) ∧ w6.cell? ⟨bt, 1, none⟩ = some (.slice a1 cl c1)) := ⟨E6.out.cell HNB.out K2.out.1, E6.out.cell HNB.out K2.out.2⟩
            clear hr hg hat hlt2 HQ5 HO5 HV5 HNC5 E5 E6
            refine hK.out _ _ ?_ (fun hHeld => ?_)
            · (first | with_reducible exact K1.out | with_reducible exact K2.out | with_reducible exact K3.out)
            clear hK K
            try simp only [Act.put, List.getElem_toArray, List.getElem_cons_zero, List.getElem_cons_succ, List.setIfInBounds_toArray, List.set_cons_zero, List.set_cons_succ]
            refine wpAnyH_take (i := 9) (v := ?_) rfl (by kernel_rfl) (by kernel_rfl) (by kernel_rfl) (fun _ _ _ h => h) (Or.inl ⟨by rfl, ?_⟩) (by assumption) ?_
            rotate_left
            · (intro w hSw; (try dsimp only at hSw); go_simp; try (with_reducible rfl))
            try simp only [Act.put, List.getElem_toArray, List.getElem_cons_zero, List.getElem_cons_succ, List.setIfInBounds_toArray, List.set_cons_zero, List.set_cons_succ]
            refine wpAnyH_done (by kernel_rfl) ?_ _
            rw [← HTK.out] at HQ6
            clear HQ K1 K2 K3 hx5 hr5 hil f0 f1 HNB
            go_wp2
            go_roundw
            case rel => exact ⟨i + 1, n + 1, _, _, by go_num, rfl, by omega, by omega, HQ6⟩
            case measure => (simp [intOf]; try omega)
    · have hib : decide ((i : Int) < (n0 : Int)) = false := decide_eq_false (by omega)
      have hin : ¬ (i : Int) < (n0 : Int) := by omega
      rw [List.take_of_length_le (by rw [HN.out]; omega)] at HQl
      have HPO := hide (HPo.out (.slice an n cn) n wl (HQl.out.lp (fun j z => z)) HQl.out.ex)
      clear HQl HPo
      go_wp2_with (with_reducible refine bodyPost_ret (v := .slice an n cn) ?hr ?hd ?hp)
      case hr => simp [results, Tryz.results95, go_sem]
      case hd => rfl
      case hp => exact HPO.out
end Go.Proofs.Qxb6500773aGreat
