import Derived.Test.Qxb6500784aSt
namespace Go.Proofs.Qxb6500784a
open Go.RowKit

/-! ### Messages and transactions: lists of numbers -/
abbrev Msg := List Int
def mkd (j : Nat) : IntKind := if j = 5 ∨ j = 7 then .u64 else .u8
def txk (j : Nat) : IntKind := if j = 3 ∨ j = 4 ∨ j = 8 ∨ j = 47 ∨ j = 49 then .u64 else .u8
def kvs (k : Nat → IntKind) (m : List Int) : List Value := m.mapIdx fun j x => .int (k j) x
def msv (m : Msg) : List Value := kvs mkd m
def lim (k : IntKind) : Int := if k = .u64 then 18446744073709551616 else 256
structure KOk (k : Nat → IntKind) (n : Nat) (m : List Int) : Prop where
  l : m.length = n
  r : ∀ j x, m[j]? = some x → 0 ≤ x ∧ x < lim (k j)
abbrev MsgOk (m : Msg) : Prop := KOk mkd 41 m
abbrev TxOk (t : List Int) : Prop := KOk txk 83 t
theorem kvs_len (k : Nat → IntKind) (m : List Int) : (kvs k m).length = m.length := by simp [kvs]
theorem kvs_at (k : Nat → IntKind) (m : List Int) (j : Nat) : (kvs k m)[j]? = m[j]?.map (fun x => .int (k j) x) := by simp [kvs]
theorem kvs_one (k : Nat → IntKind) (m : List Int) : ∀ u ∈ kvs k m, u.oneCell' = true := fun u hu => by
  obtain ⟨j, hj⟩ := List.mem_iff_getElem?.1 hu
  rw [kvs_at] at hj
  obtain ⟨x, _, rfl⟩ := Option.map_eq_some_iff.1 hj
  rfl
theorem kvs_inj (k : Nat → IntKind) {a b : List Int} (h : kvs k a = kvs k b) : a = b := by
  apply List.ext_getElem?
  intro j
  have := congrArg (fun l => l[j]?) h
  simp only [kvs_at] at this
  cases ha : a[j]? with
  | none => rw [ha] at this; cases hb : b[j]? with
    | none => rfl
    | some y => rw [hb] at this; simp at this
  | some x => rw [ha] at this; cases hb : b[j]? with
    | none => rw [hb] at this; simp at this
    | some y => rw [hb] at this; simp at this; rw [this]
theorem kvs_append (k : Nat → IntKind) (a b : List Int) : kvs k (a ++ b) = kvs k a ++ kvs (fun j => k (j + a.length)) b := by
  simp [kvs, List.mapIdx_append]
theorem kvs_congr {k k' : Nat → IntKind} {m : List Int} (h : ∀ j, j < m.length → k j = k' j) : kvs k m = kvs k' m := by
  apply List.ext_getElem?
  intro j
  rw [kvs_at, kvs_at]
  cases hm : m[j]? with
  | none => rfl
  | some x => rw [h j (List.getElem?_eq_some_iff.1 hm).1]
/-- The message in a transaction. -/
def txMsg (t : List Int) : Msg := t.drop 42
theorem txMsg_ok {t : List Int} (h : TxOk t) : MsgOk (txMsg t) := by
  refine ⟨by simp [txMsg, h.l], fun j x hj => ?_⟩
  have hl : j < 41 := by
    have := (List.getElem?_eq_some_iff.1 hj).1
    simp [txMsg, h.l] at this
    exact this
  rw [txMsg, List.getElem?_drop] at hj
  have := h.r _ _ hj
  have e : txk (42 + j) = mkd j := by
    unfold txk mkd
    by_cases h5 : j = 5
    · subst h5; rfl
    · by_cases h7 : j = 7
      · subst h7; rfl
      · rw [if_neg (by omega), if_neg (by omega)]
  rw [e] at this
  exact this
theorem txv_split {t : List Int} (h : t.length = 83) : kvs txk t = kvs txk (t.take 42) ++ msv (txMsg t) := by
  conv => lhs; rw [← List.take_append_drop 42 t]
  rw [kvs_append]
  congr 1
  unfold msv txMsg
  apply kvs_congr
  intro j hj
  have : j < 41 := by simpa [h] using hj
  rw [List.length_take, h, show min 42 83 = 42 by rfl]
  unfold txk mkd
  by_cases h5 : j = 5
  · subst h5; rfl
  · by_cases h7 : j = 7
    · subst h7; rfl
    · rw [if_neg (by omega), if_neg (by omega)]

/-! ### Ledgers and boxes -/
structure Led0 where
  ch : Int
  bal : List Int
  non : List Int
  mks : List (Int × Int)
  opn : Bool
  gl : Int
  gu : Int
deriving DecidableEq
def markV (p : Int × Int) : List Value := [.int .u8 p.1, .int .u64 p.2]
def u64s (l : List Int) : List Value := l.map (Value.int .u64)
def Led0.vals (l : Led0) (m s : Value) : List Value := .int .u8 l.ch :: (u64s l.bal ++ (u64s l.non ++ [m, .bool l.opn, .int .u64 l.gl, .int .u64 l.gu, s]))
abbrev m64 : Int := 18446744073709551616
structure Led0.Ok (l : Led0) : Prop where
  bl : l.bal.length = 256
  nl : l.non.length = 64
  c : 0 ≤ l.ch ∧ l.ch < 256
  b : ∀ x, x ∈ l.bal → 0 ≤ x ∧ x < m64
  n : ∀ x, x ∈ l.non → 0 ≤ x ∧ x < m64
  m : ∀ p, p ∈ l.mks → 0 ≤ p.1 ∧ p.1 < 256 ∧ 0 ≤ p.2 ∧ p.2 < m64
  g : 0 ≤ l.gl ∧ l.gl < m64 ∧ 0 ≤ l.gu ∧ l.gu < m64
def Led0.fl (l : Led0) : Fl := ⟨fun vs s => l.vals (vs[0]?.getD nilS) s, [⟨151, 2, l.mks.length, l.mks.flatMap markV⟩]⟩
theorem Led0.len {l : Led0} (h : l.Ok) (m s : Value) : (l.vals m s).length = 326 := by simp [Led0.vals, u64s, h.bl, h.nl]
theorem Led0.flen {l : Led0} (h : l.Ok) (vs : List Value) (s : Value) : (l.fl.lay vs s).length = 326 := Led0.len h _ _
theorem u64s_at (l : List Int) (j : Nat) : (u64s l)[j]? = l[j]?.map (fun x => .int .u64 x) := by simp [u64s]
theorem Led0.at0 (l : Led0) (m s : Value) : (l.vals m s)[0]? = some (.int .u8 l.ch) := rfl
theorem Led0.atB {l : Led0} (m s : Value) {j : Nat} {x : Int} (hj : l.bal[j]? = some x) : (l.vals m s)[1 + j]? = some (.int .u64 x) := by
  have := (List.getElem?_eq_some_iff.1 hj).1
  rw [Led0.vals, Nat.add_comm, List.getElem?_cons_succ, List.getElem?_append_left (by simpa [u64s] using this), u64s_at, hj]; rfl
theorem Led0.atN {l : Led0} (h : l.Ok) (m s : Value) {j : Nat} {x : Int} (hj : l.non[j]? = some x) : (l.vals m s)[257 + j]? = some (.int .u64 x) := by
  have := (List.getElem?_eq_some_iff.1 hj).1
  rw [Led0.vals, show 257 + j = 256 + j + 1 by omega, List.getElem?_cons_succ, List.getElem?_append_right (by simp [u64s, h.bl])]
  have e : 256 + j - (u64s l.bal).length = j := by simp [u64s, h.bl]
  rw [e, List.getElem?_append_left (by simpa [u64s] using this), u64s_at, hj]; rfl
theorem Led0.tail {l : Led0} (h : l.Ok) (m s : Value) (i : Nat) : (l.vals m s)[321 + i]? = [m, .bool l.opn, .int .u64 l.gl, .int .u64 l.gu, s][i]? := by
  rw [Led0.vals, show 321 + i = 320 + i + 1 by omega, List.getElem?_cons_succ, List.getElem?_append_right (by simp [u64s, h.bl]; omega)]
  have e : 320 + i - (u64s l.bal).length = 64 + i := by simp [u64s, h.bl]; omega
  rw [e, List.getElem?_append_right (by simp [u64s, h.nl])]
  have e : 64 + i - (u64s l.non).length = i := by simp [u64s, h.nl]
  rw [e]
theorem Led0.at321 {l : Led0} (h : l.Ok) (m s : Value) : (l.vals m s)[321]? = some m := Led0.tail h m s 0
theorem Led0.at322 {l : Led0} (h : l.Ok) (m s : Value) : (l.vals m s)[322]? = some (.bool l.opn) := Led0.tail h m s 1
theorem Led0.at323 {l : Led0} (h : l.Ok) (m s : Value) : (l.vals m s)[323]? = some (.int .u64 l.gl) := Led0.tail h m s 2
theorem Led0.at324 {l : Led0} (h : l.Ok) (m s : Value) : (l.vals m s)[324]? = some (.int .u64 l.gu) := Led0.tail h m s 3
theorem Led0.at325 {l : Led0} (h : l.Ok) (m s : Value) : (l.vals m s)[325]? = some s := Led0.tail h m s 4
theorem Led0.set_tail {l : Led0} (h : l.Ok) (m s : Value) (i : Nat) (u : Value) : (l.vals m s).set (321 + i) u = .int .u8 l.ch :: (u64s l.bal ++ (u64s l.non ++ [m, .bool l.opn, .int .u64 l.gl, .int .u64 l.gu, s].set i u)) := by
  rw [Led0.vals, show 321 + i = 320 + i + 1 by omega, List.set_cons_succ, List.set_append_right _ _ (by simp [u64s, h.bl]; omega)]
  have e : 320 + i - (u64s l.bal).length = 64 + i := by simp [u64s, h.bl]; omega
  rw [e, List.set_append_right _ _ (by simp [u64s, h.nl])]
  have e : 64 + i - (u64s l.non).length = i := by simp [u64s, h.nl]
  rw [e]
theorem Led0.set321 {l : Led0} (h : l.Ok) (m s u : Value) : (l.vals m s).set 321 u = l.vals u s := Led0.set_tail h m s 0 u
theorem Led0.set322 {l : Led0} (h : l.Ok) (m s : Value) (x : Bool) : (l.vals m s).set 322 (.bool x) = Led0.vals { l with opn := x } m s := Led0.set_tail h m s 1 _
theorem Led0.set323 {l : Led0} (h : l.Ok) (m s : Value) (x : Int) : (l.vals m s).set 323 (.int .u64 x) = Led0.vals { l with gl := x } m s := Led0.set_tail h m s 2 _
theorem Led0.set324 {l : Led0} (h : l.Ok) (m s : Value) (x : Int) : (l.vals m s).set 324 (.int .u64 x) = Led0.vals { l with gu := x } m s := Led0.set_tail h m s 3 _
theorem Led0.set325 {l : Led0} (h : l.Ok) (m s u : Value) : (l.vals m s).set 325 u = l.vals m u := Led0.set_tail h m s 4 u
theorem u64s_set (L : List Int) (j : Nat) (x : Int) : (u64s L).set j (.int .u64 x) = u64s (L.set j x) := by simp [u64s, List.map_set]
theorem Led0.setB {l : Led0} (h : l.Ok) (m s : Value) {j : Nat} (hj : j < 256) (x : Int) : (l.vals m s).set (1 + j) (.int .u64 x) = Led0.vals { l with bal := l.bal.set j x } m s := by
  rw [Led0.vals, Nat.add_comm 1 j, List.set_cons_succ, List.set_append_left _ _ (by simp [u64s, h.bl]; omega), u64s_set]; rfl
theorem Led0.setN {l : Led0} (h : l.Ok) (m s : Value) {j : Nat} (hj : j < 64) (x : Int) : (l.vals m s).set (257 + j) (.int .u64 x) = Led0.vals { l with non := l.non.set j x } m s := by
  rw [Led0.vals, show 257 + j = 256 + j + 1 by omega, List.set_cons_succ, List.set_append_right _ _ (by simp [u64s, h.bl])]
  have e : 256 + j - (u64s l.bal).length = j := by simp [u64s, h.bl]
  rw [e, List.set_append_left _ _ (by simp [u64s, h.nl]; omega), u64s_set]; rfl
theorem markV_len (p : Int × Int) : (markV p).length = 2 := rfl
theorem markV_one (L : List (Int × Int)) : ∀ u ∈ L.flatMap markV, u.oneCell' = true := fun u hu => by
  obtain ⟨p, _, h⟩ := List.mem_flatMap.1 hu
  simp only [markV, List.mem_cons, List.not_mem_nil, or_false] at h
  rcases h with rfl | rfl <;> rfl
theorem Led0.one (l : Led0) {m s : Value} (hm : m.oneCell' = true) (hs : s.oneCell' = true) : ∀ u ∈ l.vals m s, u.oneCell' = true := fun u hu => by
  simp only [Led0.vals, u64s, List.mem_cons, List.mem_append, List.mem_map, List.not_mem_nil, or_false] at hu
  rcases hu with rfl | ⟨x, _, rfl⟩ | ⟨x, _, rfl⟩ | rfl | rfl | rfl | rfl | rfl <;> first | rfl | assumption

structure Box0 where
  ch : Int
  out : List Msg
  inb : List Msg
  sn : Int
deriving DecidableEq
def Box0.vals (b : Box0) (o i s : Value) : List Value := [.int .u8 b.ch, o, i, .int .i64 b.sn, s]
structure Box0.Ok (b : Box0) : Prop where
  c : 0 ≤ b.ch ∧ b.ch < 256
  s : 0 ≤ b.sn ∧ b.sn ≤ 32
  o : ∀ m, m ∈ b.out → MsgOk m
  i : ∀ m, m ∈ b.inb → MsgOk m
def Box0.fl (b : Box0) : Fl := ⟨fun vs s => b.vals (vs[0]?.getD nilS) (vs[1]?.getD nilS) s, [⟨68, 41, b.out.length, b.out.flatMap msv⟩, ⟨68, 41, b.inb.length, b.inb.flatMap msv⟩]⟩
theorem Box0.flen (b : Box0) (vs : List Value) (s : Value) : (b.fl.lay vs s).length = 5 := rfl
def LedAt (w : World) (b o : Nat) (l : Led0) (sv : List Led0) (B : List Nat) : Prop := CAt w 50 326 b o l.fl (sv.map Led0.fl) B ∧ l.Ok ∧ ∀ x, x ∈ sv → x.Ok
def BoxAt (w : World) (b o : Nat) (x : Box0) (sv : List Box0) (B : List Nat) : Prop := CAt w 54 5 b o x.fl (sv.map Box0.fl) B ∧ x.Ok ∧ ∀ y, y ∈ sv → y.Ok
end Go.Proofs.Qxb6500784a
