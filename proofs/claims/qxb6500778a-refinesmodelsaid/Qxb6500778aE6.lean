import Derived.Test.Qxb6500778aE5
namespace Go.Proofs.Qxb6500778a
open Go.RowKit

theorem dgF_pos : ∀ (l : List Int) (v : Int), 0 ≤ v → 0 ≤ (dgF l v).getD 0
  | [], v, h => h
  | c :: r, v, h => by
    rw [dgF]
    split
    · exact Int.le_refl _
    · rename_i hd
      have hd2 : 48 ≤ c ∧ c ≤ 57 := by simpa [dgP] using hd
      refine dgF_pos r _ ?_
      split <;> omega
theorem dgV_pos (l : List Int) : 0 ≤ dgV l := dgF_pos l 0 (Int.le_refl _)
theorem nxT_v (s : List Int) (o : Nat) : 0 ≤ (nxT s o).1.v := by
  unfold nxT
  simp only []
  split
  · exact Int.le_refl _
  · split
    · exact Int.le_refl _
    · split
      · exact Int.le_refl _
      · split
        · exact Int.le_refl _
        · split
          · exact Int.le_refl _
          · unfold wdT
            split
            · exact dgV_pos _
            · split
              · exact dgV_pos _
              · exact Int.le_refl _
theorem nxT_o (s : List Int) (o : Nat) (h : o ≤ s.length) : (nxT s o).2 ≤ s.length := by
  have hq := q_le s o h
  unfold nxT
  simp only []
  split
  · exact hq
  · rename_i c hc
    have := (List.getElem?_eq_some_iff.1 hc).1
    split
    · exact this
    · split
      · exact this
      · split
        · exact this
        · split
          · exact this
          · have := wlW_le (s.drop (o + skS false (s.drop o)))
            rw [List.length_drop] at this
            show _ + _ ≤ _
            omega
/-- next, exactly -/
theorem next_any {R : Nat → Option Value} (w : World) (p : Nat) (a : Option Addr) (cp : Nat) (s : List Int) (o : Nat) (h : LX R w p a cp s o) (ho : o ≤ s.length) (hl : s.length ≤ 9223372036854775807) (hcp : s.length ≤ cp) :
    Calls Try.prog 51 #[.pointer (some ⟨p, 0, none⟩)] w fun e w' => e = .returned (tokV (nxT s o).1) ∧ Ex (fun k => k = p) w w' ∧ LX R w' p a cp s (nxT s o).2 := by
  unfold nxT
  simp only []
  split
  · rename_i hc
    exact next_end w p a cp s o _ h ho hl rfl (List.getElem?_eq_none_iff.1 hc)
  · rename_i c hc
    split
    · exact next_mark w p a cp s o _ h ho hl rfl c 4 hc (by omega)
    · split
      · exact next_mark w p a cp s o _ h ho hl rfl c 5 hc (by omega)
      · split
        · exact next_mark w p a cp s o _ h ho hl rfl c 6 hc (by omega)
        · split
          · rename_i n1 n2 n3 n4
            exact next_mark w p a cp s o _ h ho hl rfl c 7 hc (.inr (.inr (.inr ⟨⟨n1, n2, n3, n4⟩, rfl⟩)))
          · rename_i n1 n2 n3 n4
            exact next_word w p a cp s o _ h ho hl rfl hcp c hc (by simpa using n4) _ rfl _ rfl
structure PSt where
  o : Nat
  t : Tok
  e : Int
  at_ : Int
/-- The parser in memory: its eight cells, told exactly. -/
structure PX (w : World) (p : Nat) (a : Option Addr) (cp : Nat) (s : List Int) (x : PSt) : Prop where
  lx : LX (fun j => w.cell? ⟨p, j, none⟩) w p a cp s x.o
  ho : x.o ≤ s.length
  c2 : w.cell? ⟨p, 2, none⟩ = some (.int .i64 x.t.k)
  c3 : w.cell? ⟨p, 3, none⟩ = some (.int .i64 x.t.q)
  c4 : w.cell? ⟨p, 4, none⟩ = some (.string x.t.x)
  c5 : w.cell? ⟨p, 5, none⟩ = some (.int .i64 x.t.v)
  c6 : w.cell? ⟨p, 6, none⟩ = some (.int .i64 x.e)
  c7 : w.cell? ⟨p, 7, none⟩ = some (.int .i64 x.at_)
  hv : 0 ≤ x.t.v
  hl : s.length ≤ 9223372036854775807
  hcp : s.length ≤ cp
theorem LX.put {R : Nat → Option Value} {w : World} {p : Nat} {a : Option Addr} {cp : Nat} {s : List Int} {o : Nat} (h : LX R w p a cp s o) {i : Nat} (hi : 2 ≤ i) (v : Value) : LX (fun j => (w.setCell ⟨p, i, none⟩ v).cell? ⟨p, j, none⟩) (w.setCell ⟨p, i, none⟩ v) p a cp s o :=
  ⟨by rw [set_cell_low _ _ (by omega)]; exact h.c0, by rw [set_cell_low _ _ (by omega)]; exact h.c1, h.src.set h.ap _ _, h.ap, fun _ _ => rfl, fun j => by rw [set_frozen]; exact h.fz j⟩
theorem LX.self {R : Nat → Option Value} {w : World} {p : Nat} {a : Option Addr} {cp : Nat} {s : List Int} {o : Nat} (h : LX R w p a cp s o) : LX (fun j => w.cell? ⟨p, j, none⟩) w p a cp s o :=
  ⟨h.c0, h.c1, h.src, h.ap, fun _ _ => rfl, h.fz⟩
section
variable {w w' : World} {p : Nat} {a : Option Addr} {cp : Nat} {s : List Int} {x : PSt}
/-- the token ahead is taken -/
theorem PX.adv (h : PX w p a cp s x) {w1 : World} {o' : Nat} (hx : LX (fun j => w.cell? ⟨p, j, none⟩) w1 p a cp s o') (ho' : o' ≤ s.length) (t : Tok) (ht : 0 ≤ t.v) : PX ((((w1.setCell ⟨p, 2, none⟩ (.int .i64 t.k)).setCell ⟨p, 3, none⟩ (.int .i64 t.q)).setCell ⟨p, 4, none⟩ (.string t.x)).setCell ⟨p, 5, none⟩ (.int .i64 t.v)) p a cp s { x with o := o', t := t } := by
  have k2 := (hx.hi 2 (by omega)).trans h.c2
  have k3 := (hx.hi 3 (by omega)).trans h.c3
  have k4 := (hx.hi 4 (by omega)).trans h.c4
  have k5 := (hx.hi 5 (by omega)).trans h.c5
  have k6 := (hx.hi 6 (by omega)).trans h.c6
  have k7 := (hx.hi 7 (by omega)).trans h.c7
  refine ⟨(((hx.put (by omega) _).put (by omega) _).put (by omega) _).put (by omega) _, ho', ?_, ?_, ?_, ?_, ?_, ?_, ht, h.hl, h.hcp⟩
  all_goals simp [go_sem, k2, k3, k4, k5, k6, k7]
theorem PX.fault (h : PX w p a cp s x) (e' a' : Int) : PX ((w.setCell ⟨p, 6, none⟩ (.int .i64 e')).setCell ⟨p, 7, none⟩ (.int .i64 a')) p a cp s { x with e := e', at_ := a' } := by
  have k2 := h.c2
  have k3 := h.c3
  have k4 := h.c4
  have k5 := h.c5
  have k6 := h.c6
  have k7 := h.c7
  refine ⟨(h.lx.put (by omega) _).put (by omega) _, h.ho, ?_, ?_, ?_, ?_, ?_, ?_, h.hv, h.hl, h.hcp⟩
  all_goals simp [go_sem, k2, k3, k4, k5, k6, k7]
theorem PX.lt (h : PX w p a cp s x) : p < w.heap.size := World.block_lt_of_cell? _ _ h.c2
theorem PX.ex (h : PX w p a cp s x) {S : Nat → Prop} (e : Ex S w w') (hp : ¬ S p) (ha : ∀ (i : Nat) c, s[i]? = some c → ∀ b off, a = some ⟨b, off, none⟩ → ¬ S b) : PX w' p a cp s x :=
  ⟨(h.lx.ex e hp ha).self, h.ho, e.cell hp h.c2, e.cell hp h.c3, e.cell hp h.c4, e.cell hp h.c5, e.cell hp h.c6, e.cell hp h.c7, h.hv, h.hl, h.hcp⟩
theorem PX.new (h : PX w p a cp s x) (e : Ex (fun _ => False) w w') : PX w' p a cp s x := h.ex e (fun e => e) (fun _ _ _ _ _ _ e => e)
theorem PX.drewN (h : PX w p a cp s x) (n : Nat) : PX (w.drewN n) p a cp s x := h.new ((Ex.refl _ w).drewN n)
end
/-! ### The parser, plain -/
def advP (s : List Int) (x : PSt) : PSt := { x with o := (nxT s x.o).2, t := (nxT s x.o).1 }
def failP (x : PSt) (e a : Int) : PSt := if x.e = 0 then { x with e := e, at_ := a } else x
def unexP (x : PSt) : PSt := failP x (if x.t.k = 7 then 1 else 2) x.t.q
def isW (x : PSt) (y : ByteArray) : Bool := (x.t.k == 1) && (x.t.x.toList == y.toList)
def wordP (s : List Int) (y : ByteArray) (x : PSt) : PSt := if x.e = 0 then (if isW x y = true then advP s x else unexP x) else x
def punctP (s : List Int) (k : Int) (x : PSt) : PSt := if x.e = 0 then (if x.t.k = k then advP s x else unexP x) else x
def eitB (x : PSt) (y : ByteArray) : Bool := decide (x.e = 0) && isW x y
def eitP (s : List Int) (y z : ByteArray) (x : PSt) : PSt := if x.e = 0 then (if isW x y = true then advP s x else wordP s z x) else x
def bndV (k max : Int) (x : PSt) : Int := if x.e = 0 ∧ x.t.k = k ∧ x.t.v ≤ max then x.t.v else 0
def bndP (s : List Int) (k max : Int) (x : PSt) : PSt := if x.e = 0 then (if x.t.k = k then (if x.t.v ≤ max then advP s x else failP x 3 x.t.q) else unexP x) else x
def PPost (w : World) (p : Nat) (a : Option Addr) (cp : Nat) (s : List Int) (v : Value) (x' : PSt) (e : Ending) (w' : World) : Prop := e = .returned v ∧ PX w' p a cp s x' ∧ Ex (fun k => k = p) w w'
set_option maxHeartbeats 4000000 in
theorem advance_any (w : World) (p : Nat) (a : Option Addr) (cp : Nat) (s : List Int) (x : PSt) (h : PX w p a cp s x) :
    Calls Try.prog 29 #[.pointer (some ⟨p, 0, none⟩)] w (PPost w p a cp s (.tuple #[]) (advP s x)) := by
  have HP := hide h
  clear h
  go_enter Try.func29, Try.ntmps29
  go_wp2_with fail
  refine (next_any _ p a cp s x.o HP.out.lx HP.out.ho HP.out.hl HP.out.hcp).mono ?_
  rintro e w1 ⟨rfl, hex, hlx⟩
  have HF := hide (HP.out.adv hlx (nxT_o s x.o HP.out.ho) (nxT s x.o).1 (nxT_v s x.o))
  have HE := hide hex
  have c2 := (hlx.hi 2 (by omega)).trans HP.out.c2
  have c3 := (hlx.hi 3 (by omega)).trans HP.out.c3
  have c4 := (hlx.hi 4 (by omega)).trans HP.out.c4
  have c5 := (hlx.hi 5 (by omega)).trans HP.out.c5
  have fr := hlx.fz
  have HAD : Hid (advP s x = { x with o := (nxT s x.o).2, t := (nxT s x.o).1 }) := rfl
  clear hlx hex
  generalize (nxT s x.o).2 = o' at *
  generalize (nxT s x.o).1 = t at *
  obtain ⟨tk, tq, tx, tv⟩ := t
  simp only [tokV]
  go_wp2
  go_end0
  refine ⟨rfl, ?_, (((HE.out.set (p := p) rfl _).set (p := p) rfl _).set (p := p) rfl _).set (p := p) rfl _⟩
  rw [HAD.out]
  exact HF.out
theorem fail_any (w : World) (p : Nat) (a : Option Addr) (cp : Nat) (s : List Int) (x : PSt) (e0 y : Int) (h : PX w p a cp s x) :
    Calls Try.prog 33 #[.pointer (some ⟨p, 0, none⟩), .int .i64 e0, .int .i64 y] w (PPost w p a cp s (.tuple #[]) (failP x e0 y)) := by
  have HP := hide h
  have c6 := h.c6
  have c7 := h.c7
  have fr := h.lx.fz
  clear h
  obtain ⟨er, her⟩ : ∃ er, x.e = er := ⟨_, rfl⟩
  have HF : Hid (failP x e0 y = if er = 0 then { x with e := e0, at_ := y } else x) := by rw [← her]; rfl
  rw [her] at c6
  clear her
  go_enter Try.func33, Try.ntmps33
  by_cases hz : er = 0
  · subst hz
    rw [if_pos rfl] at HF
    go_wp2
    go_end0
    exact ⟨rfl, by rw [HF.out]; exact HP.out.fault e0 y, ((Ex.refl (fun k => k = p) w).set (p := p) rfl _).set (p := p) rfl _⟩
  · have hzb : (er == 0) = false := by simp [hz]
    rw [if_neg hz] at HF
    go_wp2
    go_end0
    exact ⟨rfl, by rw [HF.out]; exact HP.out, Ex.refl _ _⟩
theorem unexpected_any (w : World) (p : Nat) (a : Option Addr) (cp : Nat) (s : List Int) (x : PSt) (h : PX w p a cp s x) :
    Calls Try.prog 53 #[.pointer (some ⟨p, 0, none⟩)] w (PPost w p a cp s (.tuple #[]) (unexP x)) := by
  have HI := hide h
  have c2 := h.c2
  have c3 := h.c3
  clear h
  obtain ⟨k, hk⟩ : ∃ k, x.t.k = k := ⟨_, rfl⟩
  obtain ⟨q, hq⟩ : ∃ q, x.t.q = q := ⟨_, rfl⟩
  have HF : Hid (unexP x = failP x (if k = 7 then 1 else 2) q) := by rw [← hk, ← hq]; rfl
  rw [hk] at c2
  rw [hq] at c3
  clear hk hq
  go_enter Try.func53, Try.ntmps53
  by_cases hk : k = 7
  · subst hk
    rw [if_pos rfl] at HF
    go_wp2_with fail
    refine (fail_any _ p a cp s x 1 q HI.out).mono ?_
    rintro e w1 ⟨rfl, hr, hex⟩
    rw [← HF.out] at hr
    have HR := hide hr
    have HE := hide hex
    clear hr hex c2 c3
    go_wp2
    go_end0
    exact ⟨rfl, HR.out, HE.out⟩
  · have hkb : (k == 7) = false := by simp [hk]
    rw [if_neg hk] at HF
    go_wp2_with fail
    refine (fail_any _ p a cp s x 2 q HI.out).mono ?_
    rintro e w1 ⟨rfl, hr, hex⟩
    rw [← HF.out] at hr
    have HR := hide hr
    have HE := hide hex
    clear hr hex c2 c3
    go_wp2
    go_end0
    exact ⟨rfl, HR.out, HE.out⟩
theorem isWord_any (w : World) (p : Nat) (a : Option Addr) (cp : Nat) (s : List Int) (x : PSt) (y : ByteArray) (h : PX w p a cp s x) :
    Calls Try.prog 52 #[.pointer (some ⟨p, 0, none⟩), .string y] w fun e w' => e = .returned (.bool (isW x y)) ∧ w = w' := by
  have c2 := h.c2
  have c4 := h.c4
  clear h
  obtain ⟨k, hk⟩ : ∃ k, x.t.k = k := ⟨_, rfl⟩
  obtain ⟨z, hz⟩ : ∃ z, x.t.x = z := ⟨_, rfl⟩
  have HF : Hid (isW x y = ((k == 1) && (z.toList == y.toList))) := by rw [← hk, ← hz]; rfl
  rw [hk] at c2
  rw [hz] at c4
  clear hk hz
  go_enter Try.func52, Try.ntmps52
  by_cases hk : k = 1
  · subst hk
    go_wp2
    all_goals
      go_ret
      exact ⟨by rw [HF.out]; rfl, rfl⟩
  · have hkb : (k == 1) = false := by simp [hk]
    go_wp2
    all_goals
      go_ret
      exact ⟨by rw [HF.out, hkb]; rfl, rfl⟩
theorem word_any (w : World) (p : Nat) (a : Option Addr) (cp : Nat) (s : List Int) (x : PSt) (y : ByteArray) (h : PX w p a cp s x) :
    Calls Try.prog 30 #[.pointer (some ⟨p, 0, none⟩), .string y] w (PPost w p a cp s (.tuple #[]) (wordP s y x)) := by
  have HI := hide h
  have c6 := h.c6
  have c2 := h.c2
  have c3 := h.c3
  have c5 := h.c5
  clear h
  obtain ⟨er, her⟩ : ∃ er, x.e = er := ⟨_, rfl⟩
  obtain ⟨k, hk⟩ : ∃ k, x.t.k = k := ⟨_, rfl⟩
  obtain ⟨tq, htq⟩ : ∃ k, x.t.q = k := ⟨_, rfl⟩
  obtain ⟨tv, htv⟩ : ∃ k, x.t.v = k := ⟨_, rfl⟩
  rw [her] at c6
  rw [hk] at c2
  rw [htq] at c3
  rw [htv] at c5
  have HW := hide (isWord_any w p a cp s x y HI.out)
  obtain ⟨b, hb⟩ : ∃ b, isW x y = b := ⟨_, rfl⟩
  rw [hb] at HW
  have HF : Hid (wordP s y x = if er = 0 then (if b = true then advP s x else unexP x) else x) := by rw [← her, ← hb]; rfl
  clear her hk htq htv hb
  go_enter Try.func30, Try.ntmps30
  by_cases hz : er = 0
  · subst hz
    rw [if_pos rfl] at HF
    go_wp2_with fail
    refine (HW.out).mono ?_
    rintro e w1 ⟨rfl, rfl⟩
    cases b
    · rw [if_neg (by decide)] at HF
      go_wp2_with fail
      refine (unexpected_any _ p a cp s x HI.out).mono ?_
      rintro e w2 ⟨rfl, hr, hex⟩
      rw [← HF.out] at hr
      have HR := hide hr
      have HE := hide hex
      clear hr hex c6 c2 c3 c5
      go_wp2
      exact bodyPost_ret (v := .tuple #[]) (by simp [results, Try.results30, go_sem]) rfl ⟨rfl, HR.out, HE.out⟩
    · rw [if_pos rfl] at HF
      go_wp2_with fail
      refine (advance_any _ p a cp s x HI.out).mono ?_
      rintro e w2 ⟨rfl, hr, hex⟩
      rw [← HF.out] at hr
      have HR := hide hr
      have HE := hide hex
      clear hr hex c6 c2 c3 c5
      go_wp2
      go_end0
      exact ⟨rfl, HR.out, HE.out⟩
  · have hzb : (er != 0) = true := by simp [hz]
    rw [if_neg hz] at HF
    go_wp2
    exact bodyPost_ret (v := .tuple #[]) (by simp [results, Try.results30, go_sem]) rfl ⟨rfl, by rw [HF.out]; exact HI.out, Ex.refl _ _⟩
theorem punct_any (w : World) (p : Nat) (a : Option Addr) (cp : Nat) (s : List Int) (x : PSt) (y : Int) (h : PX w p a cp s x) :
    Calls Try.prog 32 #[.pointer (some ⟨p, 0, none⟩), .int .i64 y] w (PPost w p a cp s (.tuple #[]) (punctP s y x)) := by
  have HI := hide h
  have c6 := h.c6
  have c2 := h.c2
  have c3 := h.c3
  have c5 := h.c5
  clear h
  obtain ⟨er, her⟩ : ∃ er, x.e = er := ⟨_, rfl⟩
  obtain ⟨k, hk⟩ : ∃ k, x.t.k = k := ⟨_, rfl⟩
  obtain ⟨tq, htq⟩ : ∃ k, x.t.q = k := ⟨_, rfl⟩
  obtain ⟨tv, htv⟩ : ∃ k, x.t.v = k := ⟨_, rfl⟩
  rw [her] at c6
  rw [hk] at c2
  rw [htq] at c3
  rw [htv] at c5
  have HF : Hid (punctP s y x = if er = 0 then (if k = y then advP s x else unexP x) else x) := by rw [← her, ← hk]; rfl
  clear her hk htq htv
  go_enter Try.func32, Try.ntmps32
  by_cases hz : er = 0
  · subst hz
    rw [if_pos rfl] at HF
    by_cases hk : k = y
    · rw [if_pos hk] at HF
      have hkb : (k != y) = false := by simp [hk]
      clear hk
      go_wp2_with fail
      refine (advance_any _ p a cp s x HI.out).mono ?_
      rintro e w2 ⟨rfl, hr, hex⟩
      rw [← HF.out] at hr
      have HR := hide hr
      have HE := hide hex
      clear hr hex c6 c2 c3 c5
      go_wp2
      go_end0
      exact ⟨rfl, HR.out, HE.out⟩
    · rw [if_neg hk] at HF
      have hkb : (k != y) = true := by simp [hk]
      clear hk
      go_wp2_with fail
      refine (unexpected_any _ p a cp s x HI.out).mono ?_
      rintro e w2 ⟨rfl, hr, hex⟩
      rw [← HF.out] at hr
      have HR := hide hr
      have HE := hide hex
      clear hr hex c6 c2 c3 c5
      go_wp2
      exact bodyPost_ret (v := .tuple #[]) (by simp [results, Try.results32, go_sem]) rfl ⟨rfl, HR.out, HE.out⟩
  · have hzb : (er != 0) = true := by simp [hz]
    rw [if_neg hz] at HF
    go_wp2
    exact bodyPost_ret (v := .tuple #[]) (by simp [results, Try.results32, go_sem]) rfl ⟨rfl, by rw [HF.out]; exact HI.out, Ex.refl _ _⟩
theorem either_any (w : World) (p : Nat) (a : Option Addr) (cp : Nat) (s : List Int) (x : PSt) (y z : ByteArray) (h : PX w p a cp s x) :
    Calls Try.prog 58 #[.pointer (some ⟨p, 0, none⟩), .string y, .string z] w (PPost w p a cp s (.bool (eitB x y)) (eitP s y z x)) := by
  have HI := hide h
  have c6 := h.c6
  have c2 := h.c2
  have c3 := h.c3
  have c5 := h.c5
  clear h
  obtain ⟨er, her⟩ : ∃ er, x.e = er := ⟨_, rfl⟩
  obtain ⟨k, hk⟩ : ∃ k, x.t.k = k := ⟨_, rfl⟩
  obtain ⟨tq, htq⟩ : ∃ k, x.t.q = k := ⟨_, rfl⟩
  obtain ⟨tv, htv⟩ : ∃ k, x.t.v = k := ⟨_, rfl⟩
  rw [her] at c6
  rw [hk] at c2
  rw [htq] at c3
  rw [htv] at c5
  have HW := hide (isWord_any w p a cp s x y HI.out)
  obtain ⟨b, hb⟩ : ∃ b, isW x y = b := ⟨_, rfl⟩
  rw [hb] at HW
  have HF : Hid (eitP s y z x = if er = 0 then (if b = true then advP s x else wordP s z x) else x) := by rw [← her, ← hb]; rfl
  have HB : Hid (eitB x y = (decide (er = 0) && b)) := by rw [← her, ← hb]; rfl
  rw [HB.out]
  clear HB her hk htq htv hb
  go_enter Try.func58, Try.ntmps58
  by_cases hz : er = 0
  · subst hz
    rw [if_pos rfl] at HF
    go_wp2_with fail
    refine (HW.out).mono ?_
    rintro e w1 ⟨rfl, rfl⟩
    cases b
    · rw [if_neg (by decide)] at HF
      go_wp2_with fail
      refine (word_any _ p a cp s x z HI.out).mono ?_
      rintro e w2 ⟨rfl, hr, hex⟩
      rw [← HF.out] at hr
      have HR := hide hr
      have HE := hide hex
      clear hr hex c6 c2 c3 c5
      go_wp2
      go_ret
      exact ⟨rfl, HR.out, HE.out⟩
    · rw [if_pos rfl] at HF
      go_wp2_with fail
      refine (advance_any _ p a cp s x HI.out).mono ?_
      rintro e w2 ⟨rfl, hr, hex⟩
      rw [← HF.out] at hr
      have HR := hide hr
      have HE := hide hex
      clear hr hex c6 c2 c3 c5
      go_wp2
      go_ret
      exact ⟨rfl, HR.out, HE.out⟩
  · have hzb : (er != 0) = true := by simp [hz]
    rw [if_neg hz] at HF
    have hd : decide (er = 0) = false := decide_eq_false hz
    rw [hd]
    clear hd
    go_wp2
    go_ret
    exact ⟨rfl, by rw [HF.out]; exact HI.out, Ex.refl _ _⟩
theorem bounded_any (w : World) (p : Nat) (a : Option Addr) (cp : Nat) (s : List Int) (x : PSt) (y max : Int) (h : PX w p a cp s x) :
    Calls Try.prog 31 #[.pointer (some ⟨p, 0, none⟩), .int .i64 y, .int .i64 max] w (PPost w p a cp s (.int .i64 (bndV y max x)) (bndP s y max x)) := by
  have HI := hide h
  have c6 := h.c6
  have c2 := h.c2
  have c3 := h.c3
  have c5 := h.c5
  clear h
  obtain ⟨er, her⟩ : ∃ er, x.e = er := ⟨_, rfl⟩
  obtain ⟨k, hk⟩ : ∃ k, x.t.k = k := ⟨_, rfl⟩
  obtain ⟨tq, htq⟩ : ∃ k, x.t.q = k := ⟨_, rfl⟩
  obtain ⟨tv, htv⟩ : ∃ k, x.t.v = k := ⟨_, rfl⟩
  rw [her] at c6
  rw [hk] at c2
  rw [htq] at c3
  rw [htv] at c5
  have HF : Hid (bndP s y max x = if er = 0 then (if k = y then (if tv ≤ max then advP s x else failP x 3 tq) else unexP x) else x) := by rw [← her, ← hk, ← htv, ← htq]; rfl
  have HB : Hid (bndV y max x = if er = 0 ∧ k = y ∧ tv ≤ max then tv else 0) := by rw [← her, ← hk, ← htv]; rfl
  rw [HB.out]
  clear HB her hk htq htv
  go_enter Try.func31, Try.ntmps31
  by_cases hz : er = 0
  · subst hz
    rw [if_pos rfl] at HF
    by_cases hk : k = y
    · rw [if_pos hk] at HF
      by_cases hm : tv ≤ max
      · rw [if_pos hm] at HF
        rw [if_pos ⟨rfl, hk, hm⟩]
        have hkb : (k != y) = false := by simp [hk]
        have hmb : decide (max < tv) = false := decide_eq_false (by omega)
        clear hk hm
        go_wp2_with fail
        refine (advance_any _ p a cp s x HI.out).mono ?_
        rintro e w2 ⟨rfl, hr, hex⟩
        rw [← HF.out] at hr
        have HR := hide hr
        have HE := hide hex
        clear hr hex c6 c2 c3 c5
        go_wp2
        go_ret
        exact ⟨rfl, HR.out, HE.out⟩
      · rw [if_neg hm] at HF
        rw [if_neg (fun h => hm h.2.2)]
        have hkb : (k != y) = false := by simp [hk]
        have hmb : decide (max < tv) = true := decide_eq_true (by omega)
        clear hk hm
        go_wp2_with fail
        refine (fail_any _ p a cp s x 3 tq HI.out).mono ?_
        rintro e w2 ⟨rfl, hr, hex⟩
        rw [← HF.out] at hr
        have HR := hide hr
        have HE := hide hex
        clear hr hex c6 c2 c3 c5
        go_wp2
        go_ret
        exact ⟨rfl, HR.out, HE.out⟩
    · rw [if_neg hk] at HF
      rw [if_neg (fun h => hk h.2.1)]
      have hkb : (k != y) = true := by simp [hk]
      clear hk
      go_wp2_with fail
      refine (unexpected_any _ p a cp s x HI.out).mono ?_
      rintro e w2 ⟨rfl, hr, hex⟩
      rw [← HF.out] at hr
      have HR := hide hr
      have HE := hide hex
      clear hr hex c6 c2 c3 c5
      go_wp2
      go_ret
      exact ⟨rfl, HR.out, HE.out⟩
  · have hzb : (er != 0) = true := by simp [hz]
    rw [if_neg hz] at HF
    rw [if_neg (fun h => hz h.1)]
    go_wp2
    go_ret
    exact ⟨rfl, by rw [HF.out]; exact HI.out, Ex.refl _ _⟩
theorem device_any (w : World) (p : Nat) (a : Option Addr) (cp : Nat) (s : List Int) (x : PSt) (h : PX w p a cp s x) :
    Calls Try.prog 57 #[.pointer (some ⟨p, 0, none⟩)] w (PPost w p a cp s (.int .i64 (bndV 3 15 x)) (bndP s 3 15 x)) := by
  have HI := hide h
  clear h
  go_enter Try.func57, Try.ntmps57
  go_wp2_with fail
  refine (bounded_any _ p a cp s x 3 15 HI.out).mono ?_
  rintro e w2 ⟨rfl, hr, hex⟩
  have HR := hide hr
  have HE := hide hex
  clear hr hex
  go_wp2
  go_ret
  exact ⟨rfl, HR.out, HE.out⟩
end Go.Proofs.Qxb6500778a
