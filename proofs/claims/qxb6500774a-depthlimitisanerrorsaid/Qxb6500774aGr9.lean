import Derived.Test.Qxb6500774aGr8
namespace Go.Proofs.Qxb6500774a
open Go.RowKit

theorem wpList_app_nil {ops : Array Oper} {rest : List Oper} {o : Oper} {a : Act} {Q : Exit → Act → World → Prop} (hgd : o.guard = none) (s x : Operand) (t e : TypeId) (z : Value) (size bytes : Nat)
    (ho : o.op = .call { callee := .builtin .append, args := #[s, x], argTypes := #[t, t] }) (ht : Try.prog.underlying t = some (.slice e)) (hinfo : (Try.prog.info? e).map (fun i => (i.zero, i.size, i.bytes)) = some (some z, size, bytes)) (hzs : z.cells.size = size) (hsz : 0 < size) (hb : bytes ≤ 1000)
    (w : World) (news : List Value) (hl : news.length = size) (h1 : ∀ u ∈ news, u.oneCell' = true) (hs : a.eval s = .slice none 0 0) (hx : a.eval x = .slice (some ⟨w.heap.size, 0, none⟩) 1 1)
    (h : ∀ g cap w', Ex (fun _ => False) (w.alloc (.cells news.toArray e)) w' → wpList Try.prog ops Q rest (a.put o.dst (.slice (some ⟨g, 0, none⟩) 1 cap)) w') :
    wpList Try.prog ops Q (o :: rest) a (w.alloc (.cells news.toArray e)) := by
  obtain ⟨i, hi, hzz⟩ := Option.map_eq_some_iff.1 hinfo
  simp only [Prod.mk.injEq] at hzz
  obtain ⟨hz, hsi, hby⟩ := hzz
  refine wpList_append_lies _ hgd s x t ho 0 e i z size bytes ht hi hz hsi hby hzs hsz (.slice none 0 0) 0 [] hs ⟨by simp, .inl ⟨rfl, rfl⟩⟩ ⟨w.heap.size, 0, none⟩ 1 1 news hx (by omega) (fun j u hj => new_cells w news e j u hj) h1 (by omega) (by decide) (by omega) (by omega) _ rfl ?_
  intro g cap w' _ hgrow _ _
  exact h g cap w' (Ex.ofGrown hgrow (fun k hk => by simp [Value.ownBlock] at hk))
def sM : Value → Nat
  | .slice none _ _ => 1
  | _ => 0
section
variable {B p : Nat} {a : Option Addr} {cp : Nat} {s : List Int}
theorem Out.ps3 {w : World} {d : Int} {e : Tk} {L : List Tk} {r : Option Int} (h : Out B p a cp s w d (e :: L) r) (he : Ender e) : ∃ o t d' fe fl fc, PS B p a cp s w o t d' fe fl fc ∧ (t.k == 2) = false ∧ isM t ⟨#[73, 70]⟩ = false ∧ isM t ⟨#[70, 79, 82]⟩ = false ∧ isM t ⟨#[82, 85, 78, 71]⟩ = false := by
  cases r with
  | none =>
    obtain ⟨o, hps, _⟩ := h
    exact ⟨o, e, d, 0, 0, 0, hps, he.1, he.2.1, he.2.2.1, he.2.2.2.1⟩
  | some c =>
    obtain ⟨o, t, d', hps, hk, _⟩ := h
    exact ⟨o, t, d', 6, 1, c, hps, by rw [hk]; rfl, isM_bad hk _, isM_bad hk _, isM_bad hk _⟩
set_option maxRecDepth 100000 in
set_option maxHeartbeats 4000000 in
/-- parser.stmts on one statement -/
theorem stmts_one {b : Sm} (hS : ∀ (w : World) (q : Nat) (l0 c0 : Int) (d : Int) (u : Tk) (L : List Tk), B ≤ q → SB w q (zSt l0 c0) → 0 ≤ d ∧ d ≤ 64 → Stop u → At B p a cp s w d (smT b ++ u :: L) →
      (match b with
        | .asg _ _ _ _ => Calls Try.prog 73 #[.pointer (some ⟨p, 0, none⟩), .pointer (some ⟨q, 0, none⟩)] w (RetS B p q a cp s w d (u :: L) (deepS b d))
        | .ifs _ _ _ _ _ _ => Calls Try.prog 74 #[.pointer (some ⟨p, 0, none⟩), .pointer (some ⟨q, 0, none⟩)] w (RetS B p q a cp s w d (u :: L) (deepS b d))
        | .fors _ _ _ _ _ _ _ _ _ _ => Calls Try.prog 75 #[.pointer (some ⟨p, 0, none⟩), .pointer (some ⟨q, 0, none⟩)] w (RetS B p q a cp s w d (u :: L) (deepS b d)))) (hok : b.Ok) : StmtsOk B p a cp s b := by
  intro w d sc e L hd hsc he hat
  have HS := hide hS
  have HSC := hide hsc
  have HEN := hide he
  have HAT := hide hat
  have hbb := hat.hB
  have HOK := hide hok
  clear hS hsc he hat hok
  go_enter Try.func37, Try.ntmps37
  go_wp2
  go_loopw [3] (fun s3 wr => s3 = .slice none 0 0 ∧ w = wr ∨ (∃ g l c, s3 = .slice (some g) l c) ∧ Ex (fun k => k = p) w wr ∧ Out B p a cp s wr d (e :: L) (deepS b d)) (fun s3 _ => sM s3)
  case atStart => exact .inl ⟨rfl, rfl⟩
  case round =>
    rcases hrel with ⟨rfl, rfl⟩ | ⟨⟨g, l, c, rfl⟩, hex, hout⟩
    · obtain ⟨y, Y, hY⟩ := smT_cons b (sc :: e :: L)
      have hat := HAT.out
      rw [hY] at hat
      obtain ⟨o, hps, hst⟩ := hat
      have HPS := hide hps
      have c8 := hps.c8
      have c9 := hps.c9
      have hpl : p < w.heap.size := World.block_lt_of_cell? _ _ c8
      clear hst hps
      go_upto_region 2 with fail
      go_region
      have hs2 := ((Ex.refl (fun _ => False) w).alloc (.cells #[.int .i64 0, .string ⟨#[]⟩, .slice none 0 0, .slice none 0 0, .slice none 0 0, .slice none 0 0, .slice none 0 0, .slice none 0 0, .int .i64 y.l, .int .i64 y.c] 113)).drew
      have HSB : Hid (SB (w.alloc (.cells #[.int .i64 0, .string ⟨#[]⟩, .slice none 0 0, .slice none 0 0, .slice none 0 0, .slice none 0 0, .slice none 0 0, .slice none 0 0, .int .i64 y.l, .int .i64 y.c] 113)).drew w.heap.size (zSt y.l y.c)) := (SB.new w (zSt y.l y.c)).keep (S := fun _ => False) (Ex.refl _ _).drew (fun e => e)
      have HE2 : Hid (Ex (fun k => k = p) w (w.alloc (.cells #[.int .i64 0, .string ⟨#[]⟩, .slice none 0 0, .slice none 0 0, .slice none 0 0, .slice none 0 0, .slice none 0 0, .slice none 0 0, .int .i64 y.l, .int .i64 y.c] 113)).drew) := ((Ex.refl _ _).alloc _).drew
      have HAT2 := hide (HAT.out.ex hs2 (fun _ e => e.elim))
      have HPS2 := hide (HPS.out.ex hs2 (fun _ e => e.elim))
      generalize (w.alloc (.cells #[.int .i64 0, .string ⟨#[]⟩, .slice none 0 0, .slice none 0 0, .slice none 0 0, .slice none 0 0, .slice none 0 0, .slice none 0 0, .int .i64 y.l, .int .i64 y.c] 113)).drew = w2 at *
      have HQ : Hid (B ≤ w.heap.size) := hbb.1
      have HWQ : Hid (w.heap.size ≤ w.heap.size) := Nat.le_refl _
      obtain ⟨q, hqe⟩ : ∃ q, w.heap.size = q := ⟨_, rfl⟩
      rw [hqe] at HSB HQ hpl ⊢
      have HWQ : Hid (w.heap.size ≤ q) := by rw [hqe]; exact Nat.le_refl _
      clear hqe c8 c9 hs2 HPS
      have HC := hide (HS.out w2 q y.l y.c d sc (e :: L) HQ.out HSB.out hd (stop_kw HSC.out (by decide) rfl rfl) HAT2.out)
      have c4 := HPS2.out.c4
      obtain ⟨kb, hkb⟩ : ∃ kb, (y.k == 2) = kb := ⟨_, rfl⟩
      go_upto_if 21 with fail
      go_cut [37] (fun _ wx => Hid (Ex (fun k => k = p ∨ k = q) w2 wx ∧ (∃ t, SB wx q t) ∧ Out B p a cp s wx d (sc :: e :: L) (deepS b d)))
      case first =>
        cases b with
        | asg x ae its n =>
          obtain ⟨rfl, rfl⟩ : y = x ∧ Y = ae :: (toks its n ++ sc :: e :: L) := by
            simp only [smT, List.cons_append, List.cons.injEq] at hY
            exact ⟨hY.1.symm, hY.2.symm⟩
          obtain rfl : true = kb := by rw [← hkb, HOK.out.1]; rfl
          clear hY hkb c4
          go_wp2_with (go_at_call 73; refine (HC.out).mono ?_; rintro e3 w3 ⟨rfl, hx⟩; have HX3 := hide hx; clear hx; simp only [])
          go_meet
          case rel => exact HX3
        | ifs i_ x th b0 sc0 ei =>
          obtain ⟨rfl, hYY⟩ : y = i_ ∧ Y = x :: th :: (smT b0 ++ [sc0, ei] ++ sc :: e :: L) := by
            simp only [smT, List.cons_append, List.cons.injEq] at hY
            exact ⟨hY.1.symm, hY.2.symm⟩
          have HM := hide HOK.out.1
          obtain rfl : false = kb := by rw [← hkb, isM_k HM.out]; rfl
          clear hY hYY hkb c4
          go_wp2_with (first | (go_at_call 72; refine (at_is HPS2.out _ _ rfl).mono ?_; rintro e4 wq ⟨rfl, rfl⟩; simp only [HM.out]) | (go_at_call 74; refine (HC.out).mono ?_; rintro e3 w3 ⟨rfl, hx⟩; have HX3 := hide hx; clear hx; simp only []))
          go_meet
          case rel => exact HX3
        | fors f nm ae z t1 o_ d1 b0 sc0 ef =>
          obtain ⟨rfl, hYY⟩ : y = f ∧ Y = nm :: ae :: z :: t1 :: o_ :: d1 :: (smT b0 ++ [sc0, ef] ++ sc :: e :: L) := by
            simp only [smT, List.cons_append, List.cons.injEq] at hY
            exact ⟨hY.1.symm, hY.2.symm⟩
          have HM := hide HOK.out.1
          have HM2 := hide (isM_ne (y := ⟨#[73, 70]⟩) HM.out (by rw [ByteArray.toList_eq, ByteArray.toList_eq]; rfl))
          obtain rfl : false = kb := by rw [← hkb, isM_k HM.out]; rfl
          clear hY hYY hkb c4
          go_wp2_with (first | (go_at_call 72; refine (at_is HPS2.out _ _ rfl).mono ?_; rintro e4 wq ⟨rfl, rfl⟩; simp only [HM.out, HM2.out]) | (go_at_call 75; refine (HC.out).mono ?_; rintro e3 w3 ⟨rfl, hx⟩; have HX3 := hide hx; clear hx; simp only []))
          go_meet
          case rel => exact HX3
      have HX := hcut
      have HXP := hide (expect_out HX.out.2.2 ⟨#[59]⟩ HSC.out)
      clear HC c4 HPS2 hcut
      go_upto_region 13 with (go_at_call 34; refine (HXP.out).mono ?_; rintro e w14 ⟨rfl, hex, hout⟩; have HEX := hide hex; have HOUT := hide hout; clear hex hout; simp only [])
      obtain ⟨st, hsb⟩ := HX.out.2.1
      have hq := HQ.out
      have HSB5 := hide (hsb.keep HEX.out (by omega))
      have HE5 := hide ((HE2.out.trans2 HX.out.1 (fun j e => e.elim .inl (fun e => .inr (by have := HWQ.out; omega)))).trans HEX.out)
      clear hsb HX HXP HEX HE2
      have T0 := HSB5.out.c0
      have T1 := HSB5.out.c1
      have T2 := HSB5.out.c2
      have T3 := HSB5.out.c3
      have T4 := HSB5.out.c4
      have T5 := HSB5.out.c5
      have T6 := HSB5.out.c6
      have T7 := HSB5.out.c7
      have T8 := HSB5.out.c8
      have T9 := HSB5.out.c9
      have hs15 := (Ex.refl (fun _ => False) w14).alloc (.cells [.int .i64 st.k, .string st.m, .slice st.e.a st.e.l st.e.c, .slice st.ar.a st.ar.l st.ar.c, .slice st.el.a st.el.l st.el.c, .slice st.bo.a st.bo.l st.bo.c, .slice st.ag.a st.ag.l st.ag.c, .slice st.co.a st.co.l st.co.c, .int .i64 st.li, .int .i64 st.cl].toArray 113)
      have HE15 := hide (HE5.out.trans2 hs15 (fun j e => e.elim))
      have HO15 := hide (HOUT.out.ex hs15 (fun k e => e.elim))
      clear hs15 HE5 HOUT
      go_wp2_with (at_builtin; go_loud (refine wpList_app_nil rfl (.tmp 39) (.tmp 41) 27 113 _ 10 184 rfl Try.underlying27 Try.inf113 rfl (by decide) (by decide) w14 [.int .i64 st.k, .string st.m, .slice st.e.a st.e.l st.e.c, .slice st.ar.a st.ar.l st.ar.c, .slice st.el.a st.el.l st.el.c, .slice st.bo.a st.bo.l st.bo.c, .slice st.ag.a st.ag.l st.ag.c, .slice st.co.a st.co.l st.co.c, .int .i64 st.li, .int .i64 st.cl] rfl (by simp [Value.oneCell']) rfl rfl ?_; intro g cap w16 hgr; have HE16 := hide (HE15.out.trans2 hgr (fun j e => e.elim)); have HO16 := hide (HO15.out.ex hgr (fun k e => e.elim)); clear hgr))
      go_roundw
      case rel => exact .inr ⟨⟨_, _, _, rfl⟩, HE16.out, HO16.out⟩
      case measure => exact Nat.zero_lt_one
    · obtain ⟨o, t, d', fe, fl, fc, hps, hk2, i1, i2, i3⟩ := hout.ps3 HEN.out
      have HPS := hide hps
      have HI := hide (And.intro i1 (And.intro i2 i3))
      have c8 := hps.c8
      have c9 := hps.c9
      have hpl : p < wr.heap.size := World.block_lt_of_cell? _ _ c8
      clear hps i1 i2 i3
      go_upto_region 2 with fail
      go_region
      have hs2 := ((Ex.refl (fun _ => False) wr).alloc (.cells #[.int .i64 0, .string ⟨#[]⟩, .slice none 0 0, .slice none 0 0, .slice none 0 0, .slice none 0 0, .slice none 0 0, .slice none 0 0, .int .i64 t.l, .int .i64 t.c] 113)).drew
      have HE2 := hide (hex.trans2 hs2 (fun j e => e.elim))
      have HO2 := hide (hout.ex hs2 (fun _ e => e.elim))
      have HPS2 := hide (HPS.out.ex hs2 (fun _ e => e.elim))
      generalize (wr.alloc (.cells #[.int .i64 0, .string ⟨#[]⟩, .slice none 0 0, .slice none 0 0, .slice none 0 0, .slice none 0 0, .slice none 0 0, .slice none 0 0, .int .i64 t.l, .int .i64 t.c] 113)).drew = w2 at *
      have c4 := HPS2.out.c4
      clear c8 c9 hs2 HPS hex hout
      go_wp2_with (first | (go_at_call 72; refine (at_is HPS2.out _ _ rfl).mono ?_; rintro e wq ⟨rfl, rfl⟩; simp only [HI.out.1, HI.out.2.1]) | (go_at_call 43; refine (accept_no HPS2.out _ HI.out.2.2).mono ?_; rintro e wq ⟨rfl, rfl⟩; simp only []))
      go_ret
      exact ⟨⟨_, _, _⟩, rfl, HE2.out, HO2.out⟩
end
end Go.Proofs.Qxb6500774a
