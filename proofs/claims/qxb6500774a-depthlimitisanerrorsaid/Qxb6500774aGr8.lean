import Derived.Test.Qxb6500774aGr7
namespace Go.Proofs.Qxb6500774a
open Go.RowKit

theorem Try.inf117 : (Try.prog.info? 117).map (fun i => (i.zero, i.size, i.bytes)) = some (some (.agg #[.int .i64 0, .string ⟨#[]⟩, .int .i64 0, .string ⟨#[]⟩, .slice none 0 0, .int .i64 0, .int .i64 0, .slice none 0 0]), 8, 112) := by kernel_rfl
theorem Try.inf113 : (Try.prog.info? 113).map (fun i => (i.zero, i.size, i.bytes)) = some (some (.agg #[.int .i64 0, .string ⟨#[]⟩, .slice none 0 0, .slice none 0 0, .slice none 0 0, .slice none 0 0, .slice none 0 0, .slice none 0 0, .int .i64 0, .int .i64 0]), 10, 184) := by kernel_rfl
/-- append of one element onto nil -/
theorem app_nil (t ty e : TypeId) (z : Value) (size bytes : Nat) (ht : Try.prog.underlying t = some (.slice e)) (hinfo : (Try.prog.info? e).map (fun i => (i.zero, i.size, i.bytes)) = some (some z, size, bytes)) (hzs : z.cells.size = size) (hsz : 0 < size) (hb : bytes ≤ 1000)
    (w : World) (news : List Value) (hl : news.length = size) (h1 : ∀ u ∈ news, u.oneCell' = true) (g0 : Nat) (hg : w.heap.size = g0) :
    ∃ g cap w', (Builtin.append_ #[t, t] ty #[.slice none 0 0, .slice (some ⟨g0, 0, none⟩) 1 1]).run Try.prog (w.alloc (.cells news.toArray e)) = .ok (.slice (some ⟨g, 0, none⟩) 1 cap) w' ∧ Ex (fun _ => False) (w.alloc (.cells news.toArray e)) w' := by
  subst hg
  obtain ⟨i, hi, hzz⟩ := Option.map_eq_some_iff.1 hinfo
  simp only [Prod.mk.injEq] at hzz
  obtain ⟨hz, hs, hby⟩ := hzz
  obtain ⟨g, cap, w', hr, _, hgrow, _, _⟩ := run_append_lies (P := Try.prog) (w.alloc (.cells news.toArray e)) t ty 0 e i z size bytes ht hi hz hs hby hzs hsz (.slice none 0 0) 0 [] ⟨by simp, .inl ⟨rfl, rfl⟩⟩ ⟨w.heap.size, 0, none⟩ 1 1 news (by omega) (fun j u hj => new_cells w news e j u hj) h1 (by omega) (by decide) (by omega) (by omega) _ rfl
  exact ⟨g, cap, w', hr, Ex.ofGrown hgrow (fun k hk => by simp [Value.ownBlock] at hk)⟩
theorem step_app_nil {ops : Array Oper} {o : Oper} {a : Act} {K : Act → World → Prop} {Q : Exit → Act → World → Prop} {E : Prop} (hgd : o.guard = none) (s x : Operand) (t e : TypeId) (z : Value) (size bytes : Nat)
    (ho : o.op = .call { callee := .builtin .append, args := #[s, x], argTypes := #[t, t] }) (ht : Try.prog.underlying t = some (.slice e)) (hinfo : (Try.prog.info? e).map (fun i => (i.zero, i.size, i.bytes)) = some (some z, size, bytes)) (hzs : z.cells.size = size) (hsz : 0 < size) (hb : bytes ≤ 1000)
    (w : World) (news : List Value) (hl : news.length = size) (h1 : ∀ u ∈ news, u.oneCell' = true) (hs : a.eval s = .slice none 0 0) (hx : a.eval x = .slice (some ⟨w.heap.size, 0, none⟩) 1 1)
    (h : ∀ g cap w', Ex (fun _ => False) (w.alloc (.cells news.toArray e)) w' → K (a.put o.dst (.slice (some ⟨g, 0, none⟩) 1 cap)) w') :
    if Region.wanted o (yielded ops a.tmps) = true then Oper.wp Try.prog o a (w.alloc (.cells news.toArray e)) K Q else E := by
  obtain ⟨i, hi, hzz⟩ := Option.map_eq_some_iff.1 hinfo
  simp only [Prod.mk.injEq] at hzz
  obtain ⟨hz, hsi, hby⟩ := hzz
  refine step_append_lies _ hgd s x t ho 0 e i z size bytes ht hi hz hsi hby hzs hsz (.slice none 0 0) 0 [] hs ⟨by simp, .inl ⟨rfl, rfl⟩⟩ ⟨w.heap.size, 0, none⟩ 1 1 news hx (by omega) (fun j u hj => new_cells w news e j u hj) h1 (by omega) (by decide) (by omega) (by omega) _ rfl ?_
  intro g cap w' _ hgrow _ _
  exact h g cap w' (Ex.ofGrown hgrow (fun k hk => by simp [Value.ownBlock] at hk))
def bM : Value → Nat
  | .bool true => 1
  | _ => 0
section
variable {B p : Nat} {a : Option Addr} {cp : Nat} {s : List Int}
set_option maxRecDepth 100000 in
set_option maxHeartbeats 4000000 in
/-- parser.ifStmt -/
theorem if_ok {i_ x th sc ei : Tk} {b : Sm} (hb : StmtsOk B p a cp s b) (hok : (Sm.ifs i_ x th b sc ei).Ok) {w : World} {d : Int} {u : Tk} {L : List Tk} {q : Nat} {l0 c0 : Int} (hq : B ≤ q) (hsb : SB w q (zSt l0 c0)) (hd : 0 ≤ d ∧ d ≤ 64) (hat : At B p a cp s w d (smT (Sm.ifs i_ x th b sc ei) ++ u :: L)) :
    Calls Try.prog 74 #[.pointer (some ⟨p, 0, none⟩), .pointer (some ⟨q, 0, none⟩)] w (RetS B p q a cp s w d (u :: L) (deepS (Sm.ifs i_ x th b sc ei) d)) := by
  obtain ⟨hf, hfl, hx, hth, hbo, hsc, hei⟩ := hok
  have hbb := hat.hB
  have hpq : p ≠ q := by omega
  simp only [smT, List.cons_append, List.append_assoc, List.nil_append] at hat
  obtain ⟨y, Y, hY⟩ := smT_cons b (sc :: ei :: u :: L)
  have HY := hide hY
  rw [hY] at hat
  have HF := hide hf
  have HFL := hide hfl
  have HX := hide hx
  have HTH := hide hth
  have HSC := hide hsc
  have HEI := hide hei
  have HBO := hide hb
  have hs1 := (Ex.refl (fun k => k = q) w).set (p := q) (j := 0) rfl (.int .i64 2)
  have HSB := hide (hsb.put0 2)
  have HE1 := hide (hs1.r (p := p))
  have HAT := hide (hat.ex hs1 (fun k e => by omega))
  have q0 := hsb.c0
  have qf0 := hsb.fz 0
  clear hf hfl hx hth hbo hsc hei hb hat hY hsb hs1
  go_enter Try.func74, Try.ntmps74
  go_upto_region 1 with fail
  generalize w.setCell ⟨q, 0, none⟩ (.int .i64 2) = w1 at *
  clear q0 qf0
  by_cases h64 : 64 ≤ d
  · have HOP := hide (open_deep HAT.out h64 (isM_k HF.out))
    have HDD : Hid (deepS (Sm.ifs i_ x th b sc ei) d = some i_.c) := if_pos h64
    clear h64
    go_wp2_with (go_at_call 94; refine (HOP.out).mono ?_; rintro e w2 ⟨rfl, hex, hbad⟩; have HEX := hide hex; have HBAD := hide hbad; clear hex hbad; simp only [])
    have HQ : Out B p a cp s w2 d (u :: L) (deepS (Sm.ifs i_ x th b sc ei) d) := by
      have hb := HBAD.out
      rw [HFL.out] at hb
      rw [HDD.out]
      exact hb
    exact bodyPost_ret (v := .tuple #[]) (by simp [results, Try.results74]) rfl ⟨rfl, HE1.out.trans (HEX.out.l (q := q)), ⟨_, HSB.out.keep HEX.out (by omega)⟩, HQ⟩
  · have HOP := hide (open_ok HAT.out (by omega) (isM_k HF.out))
    have HDD : Hid (deepS (Sm.ifs i_ x th b sc ei) d = deepS b (d + 1)) := if_neg h64
    go_upto_region 3 with (go_at_call 94; refine (HOP.out).mono ?_; rintro e w2 ⟨rfl, hex, hat⟩; have HEX := hide hex; have HAT2 := hide hat; clear hex hat; simp only [])
    have HSB2 := hide (HSB.out.keep HEX.out (by omega))
    have HE2 := hide (HE1.out.trans (HEX.out.l (q := q)))
    clear HEX HSB HE1 HAT HOP
    go_loopw [4] (fun s4 wr => s4 = .bool true ∧ w2 = wr ∨ s4 = .bool false ∧ (∃ t, SB wr q t) ∧ Ex (fun k => k = p ∨ k = q) w wr ∧ Out B p a cp s wr (d + 1) (ei :: u :: L) (deepS b (d + 1))) (fun s4 _ => bM s4)
    case atStart => exact .inl ⟨rfl, rfl⟩
    case round =>
      rcases hrel with ⟨rfl, rfl⟩ | ⟨rfl, ⟨t, hsb⟩, hex, hout⟩
      · have HX4 := hide (expr_all (B := B) (p := p) (a := a) (cp := cp) (s := s) (n := x) (.inl HX.out) [] (fun _ h => by cases h) w2 (d + 1) th _ (by omega) (stop_kw HTH.out (by decide) rfl rfl) HAT2.out)
        clear HAT2
        go_wp2_with fail
        refine (HX4.out).mono ?_
        rintro e w6 ⟨v, rfl, hex, hout⟩
        have hs7 := (Ex.refl (fun _ => False) w6).alloc (.cells #[.int .i64 v.k, .string v.x, .int .i64 v.n, .string v.m, .slice v.q v.ql v.qc, .int .i64 v.li, .int .i64 v.co] 47)
        have HR7 := hide (XB.new w6 v)
        have hsb6 := HSB2.out.keep hex (by omega)
        have hqr : q < w6.heap.size := World.block_lt_of_cell? _ _ hsb6.c0
        have HSB7 := hide (hsb6.keep hs7 (fun e => e))
        have HE7 := hide ((HE2.out.trans (hex.l (q := q))).trans2 hs7 (fun j e => e.elim))
        have HAT7 := hide (At.ex (L := th :: _) hout hs7 (fun _ e => e.elim))
        clear hs7 hex hout hsb6 HSB2 HE2 HX4
        unfold xpV
        simp only []
        go_upto_region 6 with fail
        generalize w6.alloc (.cells #[.int .i64 v.k, .string v.x, .int .i64 v.n, .string v.m, .slice v.q v.ql v.qc, .int .i64 v.li, .int .i64 v.co] 47) = w7 at *
        generalize w6.heap.size = r at *
        have HXP := hide (expect_yes HAT7.out ⟨#[84, 72, 69, 78]⟩ HTH.out)
        go_upto_region 7 with (go_at_call 34; refine (HXP.out).mono ?_; rintro e w8 ⟨rfl, hex, hat⟩; have HEX := hide hex; have HAT8 := hide hat; clear hex hat; simp only [])
        have HR5 := hide (HR7.out.keep HEX.out (by omega))
        have HSB5 := hide (HSB7.out.keep HEX.out (by omega))
        have HE5 := hide (HE7.out.trans (HEX.out.l (q := q)))
        have hat8 := HAT8.out.ex (S := fun _ => False) (Ex.refl _ _).drew (fun _ e => e.elim)
        rw [← HY.out] at hat8
        have HX6 := hide (HBO.out w8.drew (d + 1) sc ei (u :: L) (by omega) HSC.out (ender_if HEI.out) hat8)
        clear HEX HR7 HSB7 HE7 HAT7 HXP HAT8 hat8
        have T0 := HR5.out.c0
        have T1 := HR5.out.c1
        have T2 := HR5.out.c2
        have T3 := HR5.out.c3
        have T4 := HR5.out.c4
        have T5 := HR5.out.c5
        have T6 := HR5.out.c6
        have q3 : w8.cell? ⟨q, 3, none⟩ = some (.slice none 0 0) := HSB5.out.c3
        have qf3 := HSB5.out.fz 3
        go_region_law (first
          | (refine step_call rfl 37 #[.pointer (some ⟨p, 0, none⟩)] (by simp [go_sem]) HX6.out ?_
             rintro e w9 ⟨sl, rfl, hex, hout⟩
             have hex2 := Ex.of_drew hex
             have hr6 := HR5.out.keep hex2 (by omega)
             have hsb6 := HSB5.out.keep hex2 (by omega)
             have hlt9 : r < w9.heap.size := World.block_lt_of_cell? _ _ hr6.c0
             have hs10 := (Ex.refl (fun _ => False) w9).alloc (.cells [.int .i64 v.k, .string v.x, .int .i64 v.n, .string v.m, .slice v.q v.ql v.qc, .int .i64 v.li, .int .i64 v.co, .slice sl.a sl.l sl.c].toArray 117)
             have S0 := hr6.c0
             have S1 := hr6.c1
             have S2 := hr6.c2
             have S3 := hr6.c3
             have S4 := hr6.c4
             have S5 := hr6.c5
             have S6 := hr6.c6
             have k3 : w9.cell? ⟨q, 3, none⟩ = some (.slice none 0 0) := hsb6.c3
             have hlq9 : q < w9.heap.size := World.block_lt_of_cell? _ _ k3
             have HSB9 := hide (hsb6.keep hs10 (fun e => e))
             have HE9 := hide ((HE5.out.trans (hex2.l (q := q))).trans2 hs10 (fun j e => e.elim))
             have HOUT9 := hide (hout.ex hs10 (fun k e => e.elim))
             clear hex hex2 hr6 hout hs10 hsb6
             refine ⟨_, rfl, ?_⟩)
          | (refine step_app_nil rfl (.tmp 23) (.tmp 28) 111 117 _ 8 112 rfl Try.underlying111 Try.inf117 rfl (by decide) (by decide) w9 [.int .i64 v.k, .string v.x, .int .i64 v.n, .string v.m, .slice v.q v.ql v.qc, .int .i64 v.li, .int .i64 v.co, .slice sl.a sl.l sl.c] rfl (by simp [Value.oneCell']) rfl rfl ?_
             intro g cap w10 hgr
             have hsb10 := HSB9.out.keep hgr (fun e => e)
             have m3 : w10.cell? ⟨q, 3, none⟩ = some (.slice none 0 0) := hsb10.c3
             have mf3 := hsb10.fz 3
             have hs12 := (Ex.refl (fun k => k = q) w10).set (p := q) (j := 3) rfl (.slice (some ⟨g, 0, none⟩) 1 cap)
             have HFIN : Hid ((∃ t, SB (w10.setCell ⟨q, 3, none⟩ (.slice (some ⟨g, 0, none⟩) 1 cap)) q t) ∧ Ex (fun k => k = p ∨ k = q) w (w10.setCell ⟨q, 3, none⟩ (.slice (some ⟨g, 0, none⟩) 1 cap)) ∧ Out B p a cp s (w10.setCell ⟨q, 3, none⟩ (.slice (some ⟨g, 0, none⟩) 1 cap)) (d + 1) (ei :: u :: L) (deepS b (d + 1))) :=
               ⟨⟨_, hsb10.put3 ⟨some ⟨g, 0, none⟩, 1, cap⟩⟩, (HE9.out.trans2 hgr (fun j e => e.elim)).trans (hs12.r (p := p)), (HOUT9.out.ex hgr (fun k e => e.elim)).ex hs12 (fun k e => by omega)⟩
             have HACC := hide (accept_out HFIN.out.2.2 ⟨#[69, 76, 83, 73, 70]⟩ (ender_if HEI.out).2.2.2.2.1)
             clear hsb10 hs12 hgr))
        all_goals
          clear HR5 HSB5 HE5 HX6 T0 T1 T2 T3 T4 T5 T6 q3 qf3 S0 S1 S2 S3 S4 S5 S6 k3 m3 mf3
          go_wp2_with (go_at_call 43; refine (HACC.out).mono ?_; rintro e wq ⟨rfl, rfl⟩; simp only [])
          go_roundw
          case rel => exact .inr ⟨rfl, HFIN.out⟩
          case measure => decide
      · obtain ⟨dd, k10, kf10, hdec⟩ := hout.dec (by omega)
        have hs13 := (Ex.refl (fun k => k = p) wr).set (p := p) (j := 10) rfl (.int .i64 (wrap64 (dd - 1)))
        have HSB13 := hide (hsb.keep hs13 (by omega))
        have HE13 := hide (hex.trans (hs13.l (q := q)))
        have HXP := hide (expect_out hdec ⟨#[69, 78, 68, 95, 73, 70]⟩ HEI.out)
        have HACC := hide (accept_out hout ⟨#[69, 76, 83, 69]⟩ (ender_if HEI.out).2.2.2.2.2)
        clear hdec hs13 hsb hex hout HSB2 HE2 HAT2
        go_wp2_with (first | (go_at_call 43; refine (HACC.out).mono ?_; rintro e wq ⟨rfl, rfl⟩; simp only []) | (go_at_call 34; refine (HXP.out).mono ?_; rintro e w14 ⟨rfl, hex, hout⟩; have HEX := hide hex; have HOUT := hide hout; clear hex hout; simp only []))
        have HQ : Out B p a cp s w14 d (u :: L) (deepS (Sm.ifs i_ x th b sc ei) d) := by
          rw [HDD.out]
          exact HOUT.out
        exact ⟨rfl, .tuple #[], by simp [results, Try.results74], rfl, HE13.out.trans (HEX.out.l (q := q)), ⟨_, HSB13.out.keep HEX.out (by omega)⟩, HQ⟩
end
end Go.Proofs.Qxb6500774a
