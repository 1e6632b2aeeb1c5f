import Derived.Test.Qxb6500778aE8
import Derived.Deep.RegionLaw
namespace Go.Proofs.Qxb6500778a
open Go.RowKit

def flatC (C : List Chg) : List Value := C.flatMap Chg.vals
theorem flatC_snoc (C : List Chg) (x : Chg) : flatC (C ++ [x]) = flatC C ++ x.vals := by simp [flatC]
theorem step_append_own {P : Program} {w : World} {ops : Array Oper} {o : Oper} {a : Act} {K : Act → World → Prop} {Q : Exit → Act → World → Prop} {E : Prop} (hg : o.guard = none) (s x : Operand) (t : TypeId)
    (ho : o.op = .call { callee := .builtin .append, args := #[s, x], argTypes := #[t, t] })
    (base : Nat) (e : TypeId) (i : TypeInfo) (z : Value) (size bytes : Nat) (ht : P.underlying t = some (.slice e)) (hi : P.info? e = some i) (hz : i.zero = some z)
    (hsize : i.size = size) (hby : i.bytes = bytes) (hzs : z.cells.size = size) (hsz : 0 < size)
    (v : Value) (n : Nat) (xs : List Value) (hs : a.eval s = v) (hown : w.ownsRow base e size v n xs)
    (ad : Addr) (m c : Nat) (news : List Value) (hx : a.eval x = .slice (some ad) m c) (hl : news.length = m * size) (hnews : ∀ j u, news[j]? = some u → w.cell? (ad.add j) = some u) (h1 : ∀ u ∈ news, u.oneCell' = true)
    (h63 : n + m ≤ maxLen) (hbytes : (n + m) * bytes ≤ 140737488355328) (hbase : base ≤ w.heap.size)
    (h : ∀ v' w', w'.ownsRow base e size v' (n + m) (xs ++ news) → w.grownBy w' v.ownBlock → (v' = .slice none 0 0 ↔ v = .slice none 0 0 ∧ m = 0) → K (a.put o.dst v') w') :
    if Region.wanted o (yielded ops a.tmps) = true then Oper.wp P o a w K Q else E := by
  rw [if_pos (by simp [Region.wanted, hg])]
  exact wp_append_own w s x t ho base e i z size bytes ht hi hz hsize hby hzs hsz v n xs hs hown ad m c news hx hl hnews h1 h63 hbytes hbase h
theorem Try.inf45 : (Try.prog.info? 45).map (fun i => (i.zero, i.size, i.bytes)) = some (some (.agg #[.int .i64 0, .int .i64 0, .int .i64 0, .int .i64 0, .int .i64 0, .int .i64 0, .int .i64 0, .bool false, .bool false]), 9, 64) := by kernel_rfl
theorem own_ex {S : Nat → Prop} {w w' : World} {B e s n k : Nat} {v : Value} {xs : List Value} (h : w.ownsRow B e s v n xs) (ex : Ex S w w') (hS : ∀ j, S j → j = k) (hk : k < B) : w'.ownsRow B e s v n xs := by
  refine h.kept (ex.grown (row := some k) fun j hj => by rw [hS j hj]) ?_
  cases hv : v.ownBlock with
  | none => exact Or.inl rfl
  | some j =>
    right
    have := (h.lt j hv).1
    intro e
    injection e with e
    omega
theorem own_len {w : World} {B e s n : Nat} {v : Value} {xs : List Value} (h : w.ownsRow B e s v n xs) : ∃ sa sc, v = .slice sa n sc := by
  obtain ⟨_, ⟨e1, e2⟩ | ⟨g, cap, cur, e1, _⟩⟩ := h
  · exact ⟨none, 0, by rw [e1, e2]⟩
  · exact ⟨_, _, e1⟩
def loopX (s : List Int) : Nat → PSt → List Chg → PSt × List Chg
  | 0, x, C => (x, C)
  | n + 1, x, C => if x.e = 0 then (if x.t.k = 6 then (x, C) else if C.length = 128 then (failP x 4 x.t.q, C) else loopX s n (changeX s x).1 (C ++ [(changeX s x).2])) else (x, C)
structure Prs where
  id : Int
  cs : List Chg
  er : Int
  at_ : Int
def x0 : PSt := ⟨0, ⟨0, 0, ⟨#[]⟩, 0⟩, 0, 0⟩
/-- Parse, plain. -/
def parseP (s : List Int) : Prs :=
  let x2 := wordP s s_batch (advP s x0)
  let x4 := punctP s 5 (bndP s 2 999999 x2)
  let r := loopX s 129 x4 []
  let x7 := punctP s 0 (punctP s 6 r.1)
  if x7.e = 0 then ⟨bndV 2 999999 x2, r.2, 0, 0⟩ else ⟨0, [], x7.e, x7.at_⟩
/-- What Parse has at hand: the result r, the parser p, the batch b with the changes read so far. -/
structure BX (w0 w : World) (r p b : Nat) (a : Option Addr) (cp : Nat) (s : List Int) (x : PSt) (id : Int) (v : Value) (C : List Chg) : Prop where
  pi : PX w p a cp s x
  b0 : w.cell? ⟨b, 0, none⟩ = some (.int .i64 id)
  b1 : w.cell? ⟨b, 1, none⟩ = some v
  bf : ∀ j, w.frozen? ⟨b, j, none⟩ = false
  r0 : w.cell? ⟨r, 0, none⟩ = some (.int .i64 0)
  r1 : w.cell? ⟨r, 1, none⟩ = some (.slice none 0 0)
  rf : ∀ j, w.frozen? ⟨r, j, none⟩ = false
  own : w.ownsRow (b + 1) 45 9 v C.length (flatC C)
  bel : Below w0.heap.size w0 w
  hr : w0.heap.size ≤ r
  rp : r < p
  pb : p < b
  sl : ∀ (i : Nat) y, s[i]? = some y → ∀ g off, a = some ⟨g, off, none⟩ → g < w0.heap.size
section
variable {w0 w : World} {r p b : Nat} {a : Option Addr} {cp : Nat} {s : List Int} {x : PSt} {id : Int} {v : Value} {C : List Chg}
theorem BX.step {w' : World} {x' : PSt} (h : BX w0 w r p b a cp s x id v C) (hpi : PX w' p a cp s x') (e : Ex (fun k => k = p) w w') : BX w0 w' r p b a cp s x' id v C := by
  have hr := h.hr
  have rp := h.rp
  have pb := h.pb
  have nb : ¬ b = p := by omega
  have nr : ¬ r = p := by omega
  exact ⟨hpi, e.cell nb h.b0, e.cell nb h.b1, fun j => (e.frozen nb (World.block_lt_of_cell? _ _ h.b0)).trans (h.bf j), e.cell nr h.r0, e.cell nr h.r1, fun j => (e.frozen nr (World.block_lt_of_cell? _ _ h.r0)).trans (h.rf j), own_ex h.own e (fun j hj => hj) (by omega), h.bel.trans (e.below h.bel.size (fun k hk (x : k = p) => by omega)), hr, rp, pb, h.sl⟩
theorem BX.drewN (h : BX w0 w r p b a cp s x id v C) (m : Nat) : BX w0 (w.drewN m) r p b a cp s x id v C :=
  h.step (h.pi.drewN m) ((Ex.refl _ w).drewN m)
theorem BX.drew (h : BX w0 w r p b a cp s x id v C) : BX w0 w.drew r p b a cp s x id v C := h.drewN 1
theorem BX.src (h : BX w0 w r p b a cp s x id v C) {k : Nat} (hk : w0.heap.size ≤ k) : ∀ (i : Nat) y, s[i]? = some y → ∀ g off, a = some ⟨g, off, none⟩ → g < k := fun i y hy g off ha => Nat.lt_of_lt_of_le (h.sl i y hy g off ha) hk
theorem BX.putId {id' : Int} (h : BX w0 w r p b a cp s x id v C) : BX w0 (w.setCell ⟨b, 0, none⟩ (.int .i64 id')) r p b a cp s x id' v C := by
  have hr := h.hr
  have rp := h.rp
  have pb := h.pb
  have e : Ex (fun k => k = b) w (w.setCell ⟨b, 0, none⟩ (.int .i64 id')) := (Ex.refl (fun k => k = b) w).set (p := b) rfl _
  have nr : ¬ r = b := by omega
  exact ⟨h.pi.ex e (by omega) (fun i y hy g off ha => by have := h.src (k := b) (by omega) i y hy g off ha; omega), World.cell?_setCell_same _ _ _ h.b0, by rw [World.cell?_setCell_other _ _ _ _ (by simp)]; exact h.b1, fun j => by simpa [go_sem] using h.bf j, e.cell nr h.r0, e.cell nr h.r1, fun j => (e.frozen nr (World.block_lt_of_cell? _ _ h.r0)).trans (h.rf j), own_ex h.own e (fun j hj => hj) (by omega), h.bel.setCell (by simp; omega) _, hr, rp, pb, h.sl⟩
theorem BX.app {w2 : World} {v' : Value} {y : Chg} {o : Obj} (h : BX w0 w r p b a cp s x id v C) (hg : (w.alloc o).grownBy w2 v.ownBlock) (hown : w2.ownsRow (b + 1) 45 9 v' (C.length + 1) (flatC C ++ y.vals)) : BX w0 (w2.setCell ⟨b, 1, none⟩ v') r p b a cp s x id v' (C ++ [y]) := by
  have hr := h.hr
  have rp := h.rp
  have pb := h.pb
  have hb := World.block_lt_of_cell? _ _ h.b0
  have e1 : Ex (fun k => b + 1 ≤ k) w w2 := ⟨hg.os, hg.tape, hg.output, Nat.le_trans (by simp) hg.size, fun k hk hn => (hg.block k (by simp; omega) (fun x => hn (h.own.lt k x.symm).1)).trans (Below.heap_alloc w o k hk)⟩
  have nb : ¬ (b + 1 ≤ b) := by omega
  have nr : ¬ (b + 1 ≤ r) := by omega
  have e2 : Ex (fun k => k = b) w2 (w2.setCell ⟨b, 1, none⟩ v') := (Ex.refl (fun k => k = b) w2).set (p := b) rfl _
  have nr2 : ¬ r = b := by omega
  have hb1 := e1.cell nb h.b1
  refine ⟨(h.pi.ex e1 (by omega) (fun i y hy g off ha => by have := h.src (k := b) (by omega) i y hy g off ha; omega)).ex e2 (by omega) (fun i y hy g off ha => by have := h.src (k := b) (by omega) i y hy g off ha; omega), ?_, World.cell?_setCell_same _ _ _ hb1, fun j => ?_, e2.cell nr2 (e1.cell nr h.r0), e2.cell nr2 (e1.cell nr h.r1), fun j => ?_, ?_, ?_, hr, rp, pb, h.sl⟩
  · rw [World.cell?_setCell_other _ _ _ _ (by simp)]; exact e1.cell nb h.b0
  · have := (e1.frozen (j := j) nb hb).trans (h.bf j)
    simpa [go_sem] using this
  · have hrl := World.block_lt_of_cell? _ _ h.r0
    exact ((e2.frozen nr2 (Nat.lt_of_lt_of_le hrl e1.size)).trans (e1.frozen nr hrl)).trans (h.rf j)
  · rw [flatC_snoc, show (C ++ [y]).length = C.length + 1 by simp]
    exact own_ex hown e2 (fun j hj => hj) (by omega)
  · exact (h.bel.trans (e1.below h.bel.size (fun k hk (x : b + 1 ≤ k) => by omega))).setCell (by simp; omega) _
theorem BX.keep {w2 : World} {o : Obj} (h : BX w0 w r p b a cp s x id v C) (hg : (w.alloc o).grownBy w2 v.ownBlock) : w2.cell? ⟨b, 1, none⟩ = some v ∧ ∀ j, w2.frozen? ⟨b, j, none⟩ = false := by
  have hb := World.block_lt_of_cell? _ _ h.b0
  have e1 : Ex (fun k => b + 1 ≤ k) w w2 := ⟨hg.os, hg.tape, hg.output, Nat.le_trans (by simp) hg.size, fun k hk hn => (hg.block k (by simp; omega) (fun x => hn (h.own.lt k x.symm).1)).trans (Below.heap_alloc w o k hk)⟩
  have nb : ¬ (b + 1 ≤ b) := by omega
  exact ⟨e1.cell nb h.b1, fun j => (e1.frozen nb hb).trans (h.bf j)⟩
end
def chLeft (b : Nat) (w : World) : Nat := match w.cell? ⟨b, 1, none⟩ with
  | some (.slice _ l _) => 129 - l
  | _ => 0
theorem chLeft_of {w : World} {b l : Nat} {sa : Option Addr} {sc : Nat} (h : w.cell? ⟨b, 1, none⟩ = some (.slice sa l sc)) : chLeft b w = 129 - l := by
  unfold chLeft; rw [h]
/-- A batch in memory, freshly made: its changes are a row above B. -/
def ParsePost (w : World) (r : Prs) (e : Ending) (w' : World) : Prop :=
  ∃ v, e = .returned (.tuple #[.agg #[.int .i64 r.id, v], .int .i64 r.er, .int .i64 r.at_]) ∧ Below w.heap.size w w' ∧ w'.ownsRow w.heap.size 45 9 v r.cs.length (flatC r.cs)
theorem own_low {w : World} {B B' e s n : Nat} {v : Value} {xs : List Value} (h : w.ownsRow B e s v n xs) (hb : B' ≤ B) : w.ownsRow B' e s v n xs := by
  obtain ⟨h1, ⟨e1, e2⟩ | ⟨g, cap, cur, e1, h2, h3⟩⟩ := h
  · exact ⟨h1, .inl ⟨e1, e2⟩⟩
  · exact ⟨h1, .inr ⟨g, cap, cur, e1, Nat.le_trans hb h2, h3⟩⟩
set_option maxRecDepth 100000 in
set_option maxHeartbeats 8000000 in
/-- Parse -/
theorem parse_any (w : World) (a : Option Addr) (cp : Nat) (s : List Int) (hl : s.length ≤ 9223372036854775807) (hcp : s.length ≤ cp) (hsrc : SrcAt w a s) :
    Calls Try.prog 13 #[.slice a s.length cp] w (ParsePost w (parseP s)) := by
  obtain ⟨i0, hi, hz0, hz1, hz2⟩ := info_parts Try.inf45
  have hsome : ∀ (i : Nat) y, s[i]? = some y → ∀ g off, a = some ⟨g, off, none⟩ → g < w.heap.size := fun i y hy g off ha => by
    obtain ⟨g', off', e, hx⟩ := hsrc i y hy
    rw [ha] at e
    injection e with e
    injection e with e1 e2
    subst e1
    exact World.block_lt_of_cell? _ _ hx
  obtain ⟨W, hW⟩ : ∃ W, W = ((w.alloc (.cells #[.int .i64 0, .slice none 0 0] 52)).alloc (.cells #[.slice a s.length cp, .int .i64 0, .int .i64 0, .int .i64 0, .string ⟨#[]⟩, .int .i64 0, .int .i64 0, .int .i64 0] 89)).alloc (.cells #[.int .i64 0, .slice none 0 0] 52) := ⟨_, rfl⟩
  have hbel : Below w.heap.size w W := by rw [hW]; exact (((Below.refl _ _).alloc (Nat.le_refl _) _).alloc (by simp) _).alloc (by simp; omega) _
  have hs2 : SrcAt W a s := fun i c hc => by
    obtain ⟨g, off, e, hx⟩ := hsrc i c hc
    exact ⟨g, off, e, cellKeep hbel hx⟩
  have HX : Hid (BX w W w.heap.size (w.heap.size + 1) (w.heap.size + 1 + 1) a cp s x0 0 (.slice none 0 0) []) := by
    refine ⟨⟨⟨?_, ?_, hs2, fun i y hy g off ha => by have := hsome i y hy g off ha; omega, fun _ _ => rfl, ?_⟩, Nat.zero_le _, ?_, ?_, ?_, ?_, ?_, ?_, Int.le_refl _, hl, hcp⟩, ?_, ?_, ?_, ?_, ?_, ?_, World.ownsRow_nil _ _ _ _, hbel, Nat.le_refl _, by omega, by omega, hsome⟩
    all_goals (rw [hW]; first | simp [go_sem, x0] | (intro j; simp [go_sem]))
  clear hsrc hs2 hbel hsome
  obtain ⟨x1, hx1⟩ : ∃ y, advP s x0 = y := ⟨_, rfl⟩
  obtain ⟨x2, hx2⟩ : ∃ y, wordP s s_batch x1 = y := ⟨_, rfl⟩
  obtain ⟨id, hid⟩ : ∃ y, bndV 2 999999 x2 = y := ⟨_, rfl⟩
  obtain ⟨x3, hx3⟩ : ∃ y, bndP s 2 999999 x2 = y := ⟨_, rfl⟩
  obtain ⟨x4, hx4⟩ : ∃ y, punctP s 5 x3 = y := ⟨_, rfl⟩
  obtain ⟨x5, C5, hx5⟩ : ∃ y z, loopX s 129 x4 [] = (y, z) := ⟨_, _, rfl⟩
  obtain ⟨x6, hx6⟩ : ∃ y, punctP s 6 x5 = y := ⟨_, rfl⟩
  obtain ⟨x7, hx7⟩ : ∃ y, punctP s 0 x6 = y := ⟨_, rfl⟩
  have HF : Hid (parseP s = if x7.e = 0 then ⟨id, C5, 0, 0⟩ else ⟨0, [], x7.e, x7.at_⟩) := by show _ = _; unfold parseP; simp only [hx1, hx2, hid, hx3, hx4, hx5, hx6, hx7]
  have H_x1 := hide hx1
  have H_x2 := hide hx2
  have H_id := hide hid
  have H_x3 := hide hx3
  have H_x4 := hide hx4
  have H_x5 := hide hx5
  have H_x6 := hide hx6
  have H_x7 := hide hx7
  clear hx1 hx2 hid hx3 hx4 hx5 hx6 hx7
  go_enter Try.func13, Try.ntmps13
  go_upto_region 3 with fail
  rw [← hW]
  clear hW
  generalize w.heap.size + 1 + 1 = b at *
  generalize w.heap.size + 1 = p at *
  obtain ⟨r, hr⟩ : ∃ r, w.heap.size = r := ⟨_, rfl⟩
  rw [hr] at HX ⊢
  have HRR := hide hr
  clear hr
  go_wp2_with fail
  refine (advance_is HX.out.pi H_x1.out).mono ?_
  rintro e w1 ⟨rfl, hr_, hex⟩
  replace HX := hide (HX.out.step hr_ hex)
  clear hr_ hex
  go_wp2_with fail
  refine (word_is HX.out.pi H_x2.out).mono ?_
  rintro e w2 ⟨rfl, hr_, hex⟩
  replace HX := hide (HX.out.step hr_ hex)
  clear hr_ hex
  go_wp2_with fail
  refine (bounded_is HX.out.pi H_id.out H_x3.out).mono ?_
  rintro e w3 ⟨rfl, hr_, hex⟩
  replace HX := hide (HX.out.step hr_ hex)
  clear hr_ hex
  have b0 := HX.out.b0
  have bf := HX.out.bf
  go_upto_region 6 with fail
  replace HX := hide (HX.out.putId (id' := id))
  clear b0 bf
  generalize w3.setCell ⟨b, 0, none⟩ (.int .i64 id) = w4 at *
  go_wp2_with fail
  refine (punct_is HX.out.pi H_x4.out).mono ?_
  rintro e w5 ⟨rfl, hr_, hex⟩
  replace HX := hide (HX.out.step hr_ hex)
  clear hr_ hex
  go_upto_block 0 with fail
  go_cut [15] (fun _ wx => ∃ v, Hid (BX w wx r p b a cp s x5 id v C5))
  case first =>
    go_wp2_with fail
    go_loopw [15] (fun _ wx => ∃ x v C, Hid (BX w wx r p b a cp s x id v C) ∧ C.length ≤ 128 ∧ Hid (loopX s (129 - C.length) x C = (x5, C5))) (fun _ wx => chLeft b wx)
    case atStart => exact ⟨_, _, [], HX, by simp, H_x5⟩
    case round =>
      clear HX
      obtain ⟨x, v, C, HX, hC, HLP⟩ := hrel
      obtain ⟨sa, sc, rfl⟩ := own_len HX.out.own
      have c6 := HX.out.pi.c6
      have c2 := HX.out.pi.c2
      have c3 := HX.out.pi.c3
      have b1 := HX.out.b1
      have bf := HX.out.bf
      obtain ⟨er, her⟩ : ∃ y, x.e = y := ⟨_, rfl⟩
      obtain ⟨k, hk⟩ : ∃ y, x.t.k = y := ⟨_, rfl⟩
      obtain ⟨tq, htq⟩ : ∃ y, x.t.q = y := ⟨_, rfl⟩
      rw [her] at c6
      rw [hk] at c2
      rw [htq] at c3
      rw [show 129 - C.length = (128 - C.length) + 1 by omega, loopX, her, hk, htq] at HLP
      clear her hk htq
      have HL := hide (chLeft_of b1)
      by_cases hz : er = 0
      · subst hz
        rw [if_pos rfl] at HLP
        by_cases hk : k = 6
        · subst hk
          rw [if_pos rfl] at HLP
          have HX5 : Hid (BX w wr r p b a cp s x5 id (.slice sa C.length sc) C5) := by
            have h := HLP.out
            injection h with h1 h2
            rw [← h1, ← h2]
            exact HX.out
          clear HLP
          go_wp2
          go_meet
          case rel => exact ⟨_, HX5⟩
        · have hkb : (k != 6) = true := by simp [hk]
          rw [if_neg hk] at HLP
          clear hk
          by_cases hfull : C.length = 128
          · have hfb : ((C.length : Int) == 128) = true := by simp; omega
            rw [if_pos hfull] at HLP
            clear hfull
            go_wp2_with fail
            refine (fail_is HX.out.pi rfl).mono ?_
            rintro e w6 ⟨rfl, hr_, hex⟩
            replace HX := hide (HX.out.step hr_ hex)
            clear hr_ hex c6 c2 c3 b1 bf
            have HX5 : Hid (BX w w6 r p b a cp s x5 id (.slice sa C.length sc) C5) := by
              have h := HLP.out
              injection h with h1 h2
              rw [← h1, ← h2]
              exact HX.out
            clear HLP
            go_wp2
            go_meet
            case rel => exact ⟨_, HX5⟩
          · have hfb : ((C.length : Int) == 128) = false := by rw [beq_eq_false_iff_ne]; omega
            rw [if_neg hfull] at HLP
            go_upto_region 10 with fail
            have hbl := World.block_lt_of_cell? _ _ b1
            obtain ⟨xn, cn, hxn⟩ : ∃ y z, changeX s x = (y, z) := ⟨_, _, rfl⟩
            have HCH : ∀ (w9 : World), PX w9 p a cp s x → Calls Try.prog 34 #[.pointer (some ⟨p, 0, none⟩)] w9 (PPost w9 p a cp s (chgV cn) xn) := fun w9 h9 => by
              have := change_any w9 p a cp s x h9
              rwa [hxn] at this
            rw [hxn] at HLP
            have HCHH := hide HCH
            clear HCH hxn
            obtain ⟨kd, dv, hp, pr, ln, ix, cl, pm, up⟩ := cn
            go_region_law (first
              | (refine step_call rfl 34 #[.pointer (some ⟨p, 0, none⟩)] (by simp [go_sem]) (HCHH.out _ HX.out.drew.pi) ?_; rintro e w6 ⟨rfl, hpi, hex⟩; refine ⟨_, rfl, ?_⟩; simp only [chgV, Chg.vals]; have HX6 := hide (HX.out.drew.step hpi hex); have b16 := HX6.out.b1; have bf6 := HX6.out.bf; clear hpi hex; have hsz6 : b + 1 ≤ w6.heap.size := World.block_lt_of_cell? _ _ b16; have b16a : ∀ ob, (w6.alloc ob).cell? ⟨b, 1, none⟩ = some (.slice sa C.length sc) := (fun ob => cellKeep ((Below.refl _ _).alloc (Nat.le_refl _) _) b16))
              | (refine step_append_own rfl (.tmp 33) (.tmp 35) 35 rfl (b + 1) 45 i0 _ 9 64 Try.underlying35 hi hz0 hz1 hz2 rfl (by decide) (.slice sa C.length sc) C.length (flatC C) rfl (HX6.out.own.alloc _) ⟨w6.heap.size, 0, none⟩ 1 1 (Chg.vals ⟨kd, dv, hp, pr, ln, ix, cl, pm, up⟩) rfl rfl (fun j u hj => by rw [Addr.add_mid, Nat.zero_add]; simpa [go_sem, Chg.vals] using hj) (fun u hu => by simp [Chg.vals] at hu; rcases hu with h | h | h | h | h | h | h | h | h <;> subst h <;> rfl) (by unfold maxLen; omega) (by omega) (by simp; omega) ?_; intro v' w7 hown hgrow _; obtain ⟨sa7, sc7, rfl⟩ := own_len hown; have HN := hide (HX6.out.app hgrow hown); obtain ⟨b17, bf7⟩ := HX6.out.keep hgrow; clear hown hgrow))
            all_goals
              clear b1 bf c6 c2 c3 b16 bf6 b16a b17 bf7 HCHH
              go_wp2
              go_roundw
              case rel =>
                refine ⟨xn, _, _, HN, by simp; omega, ?_⟩
                rw [show 129 - (C ++ [(⟨kd, dv, hp, pr, ln, ix, cl, pm, up⟩ : Chg)]).length = 128 - C.length by simp <;> omega]
                exact HLP
              case measure =>
                show chLeft b _ < chLeft b wr
                rw [HL.out, chLeft_of HN.out.b1]
                omega
      · have hzb : (er == 0) = false := by simp [hz]
        rw [if_neg hz] at HLP
        have HX5 : Hid (BX w wr r p b a cp s x5 id (.slice sa C.length sc) C5) := by
          have h := HLP.out
          injection h with h1 h2
          rw [← h1, ← h2]
          exact HX.out
        clear HLP
        go_wp2
        go_meet
        case rel => exact ⟨_, HX5⟩
  clear HX
  obtain ⟨v, HX⟩ := hcut
  go_wp2_with fail
  refine (punct_is HX.out.pi H_x6.out).mono ?_
  rintro e w6 ⟨rfl, hr_, hex⟩
  replace HX := hide (HX.out.step hr_ hex)
  clear hr_ hex
  go_wp2_with fail
  refine (punct_is HX.out.pi H_x7.out).mono ?_
  rintro e w7 ⟨rfl, hr_, hex⟩
  replace HX := hide (HX.out.step hr_ hex)
  clear hr_ hex
  obtain ⟨sa, sc, rfl⟩ := own_len HX.out.own
  obtain ⟨e6, he6⟩ : ∃ y, x7.e = y := ⟨_, rfl⟩
  obtain ⟨at_, hat⟩ : ∃ y, x7.at_ = y := ⟨_, rfl⟩
  rw [he6, hat] at HF
  have c6 := HX.out.pi.c6
  have c7 := HX.out.pi.c7
  rw [he6] at c6
  rw [hat] at c7
  clear he6 hat
  have b0 := HX.out.b0
  have b1 := HX.out.b1
  have r0 := HX.out.r0
  have r1 := HX.out.r1
  have rf := HX.out.rf
  have hrr := HX.out.hr
  have hrp := HX.out.rp
  have hpb := HX.out.pb
  by_cases hz : e6 = 0
  · subst hz
    rw [if_pos rfl] at HF
    go_wp2
    refine bodyPost_ret (v := .tuple #[.agg #[.int .i64 id, .slice sa C5.length sc], .int .i64 0, .int .i64 0]) (by simp [results, Try.results13, go_sem, r0, r1]) rfl ?_
    rw [HF.out]
    refine ⟨_, rfl, (HX.out.bel.setCell (by simp; omega) _).setCell (by simp; omega) _, ?_⟩
    exact own_low (own_ex HX.out.own (((Ex.refl (fun k => k = r) _).set (p := r) (j := 0) rfl _).set (p := r) (j := 1) rfl _) (fun j hj => hj) (by omega)) (by have := HRR.out; omega)
  · have hzb : (e6 != 0) = true := by simp [hz]
    rw [if_neg hz] at HF
    go_upto_region 14 with fail
    go_region
    go_wp2
    refine bodyPost_ret (v := .tuple #[.agg #[.int .i64 0, .slice none 0 0], .int .i64 e6, .int .i64 at_]) (by simp [results, Try.results13, go_sem, r0, r1]) rfl ?_
    rw [HF.out]
    exact ⟨_, rfl, ((HX.out.bel.setCell (by simp; omega) _).setCell (by simp; omega) _).drew, World.ownsRow_nil _ _ _ _⟩
end Go.Proofs.Qxb6500778a
