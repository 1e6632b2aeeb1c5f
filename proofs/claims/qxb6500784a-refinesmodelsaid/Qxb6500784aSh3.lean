import Derived.Test.Qxb6500784aSh2
import Derived.Test.Qxb6500784aSm
namespace Go.Proofs.Qxb6500784a
open Go.RowKit

/-! ### SHA-256 -/
def u32s (l : List Int) : List Value := l.map (Value.int .u32)
def ktab : List Int := [1116352408, 1899447441, 3049323471, 3921009573, 961987163, 1508970993, 2453635748, 2870763221, 3624381080, 310598401, 607225278, 1426881987, 1925078388, 2162078206, 2614888103, 3248222580, 3835390401, 4022224774, 264347078, 604807628, 770255983, 1249150122, 1555081692, 1996064986, 2554220882, 2821834349, 2952996808, 3210313671, 3336571891, 3584528711, 113926993, 338241895, 666307205, 773529912, 1294757372, 1396182291, 1695183700, 1986661051, 2177026350, 2456956037, 2730485921, 2820302411, 3259730800, 3345764771, 3516065817, 3600352804, 4094571909, 275423344, 430227734, 506948616, 659060556, 883997877, 958139571, 1322822218, 1537002063, 1747873779, 1955562222, 2024104815, 2227730452, 2361852424, 2428436474, 2756734187, 3204031479, 3329325298]
def hini : List Int := [1779033703, 3144134277, 1013904242, 2773480762, 1359893119, 2600822924, 528734635, 1541459225]
def rot (p q x : Int) : Int := bits .or .u32 (x / p) (x * q % 4294967296)
def itr {α : Type} (f : Nat → α → α) (a : α) : Nat → α
  | 0 => a
  | n + 1 => f n (itr f a n)
set_option maxRecDepth 100000 in
theorem rotr_2 (w : World) (x : Int) : Calls Try.prog 82 #[.int .u64 2, .int .u32 x] w fun e w' => e = .returned (.int .u32 (rot 4 1073741824 x)) ∧ w' = w := by
  have HR : Hid (rot 4 1073741824 x = bits .or .u32 (x / 4) (x * 1073741824 % 4294967296)) := rfl
  generalize rot 4 1073741824 x = y at *
  go_enter Try.func82, Try.ntmps82
  go_wp2
  go_ret
  exact ⟨by rw [HR.out]; rfl, rfl⟩
set_option maxRecDepth 100000 in
theorem rotr_6 (w : World) (x : Int) : Calls Try.prog 82 #[.int .u64 6, .int .u32 x] w fun e w' => e = .returned (.int .u32 (rot 64 67108864 x)) ∧ w' = w := by
  have HR : Hid (rot 64 67108864 x = bits .or .u32 (x / 64) (x * 67108864 % 4294967296)) := rfl
  generalize rot 64 67108864 x = y at *
  go_enter Try.func82, Try.ntmps82
  go_wp2
  go_ret
  exact ⟨by rw [HR.out]; rfl, rfl⟩
set_option maxRecDepth 100000 in
theorem rotr_7 (w : World) (x : Int) : Calls Try.prog 82 #[.int .u64 7, .int .u32 x] w fun e w' => e = .returned (.int .u32 (rot 128 33554432 x)) ∧ w' = w := by
  have HR : Hid (rot 128 33554432 x = bits .or .u32 (x / 128) (x * 33554432 % 4294967296)) := rfl
  generalize rot 128 33554432 x = y at *
  go_enter Try.func82, Try.ntmps82
  go_wp2
  go_ret
  exact ⟨by rw [HR.out]; rfl, rfl⟩
set_option maxRecDepth 100000 in
theorem rotr_11 (w : World) (x : Int) : Calls Try.prog 82 #[.int .u64 11, .int .u32 x] w fun e w' => e = .returned (.int .u32 (rot 2048 2097152 x)) ∧ w' = w := by
  have HR : Hid (rot 2048 2097152 x = bits .or .u32 (x / 2048) (x * 2097152 % 4294967296)) := rfl
  generalize rot 2048 2097152 x = y at *
  go_enter Try.func82, Try.ntmps82
  go_wp2
  go_ret
  exact ⟨by rw [HR.out]; rfl, rfl⟩
set_option maxRecDepth 100000 in
theorem rotr_13 (w : World) (x : Int) : Calls Try.prog 82 #[.int .u64 13, .int .u32 x] w fun e w' => e = .returned (.int .u32 (rot 8192 524288 x)) ∧ w' = w := by
  have HR : Hid (rot 8192 524288 x = bits .or .u32 (x / 8192) (x * 524288 % 4294967296)) := rfl
  generalize rot 8192 524288 x = y at *
  go_enter Try.func82, Try.ntmps82
  go_wp2
  go_ret
  exact ⟨by rw [HR.out]; rfl, rfl⟩
set_option maxRecDepth 100000 in
theorem rotr_17 (w : World) (x : Int) : Calls Try.prog 82 #[.int .u64 17, .int .u32 x] w fun e w' => e = .returned (.int .u32 (rot 131072 32768 x)) ∧ w' = w := by
  have HR : Hid (rot 131072 32768 x = bits .or .u32 (x / 131072) (x * 32768 % 4294967296)) := rfl
  generalize rot 131072 32768 x = y at *
  go_enter Try.func82, Try.ntmps82
  go_wp2
  go_ret
  exact ⟨by rw [HR.out]; rfl, rfl⟩
set_option maxRecDepth 100000 in
theorem rotr_18 (w : World) (x : Int) : Calls Try.prog 82 #[.int .u64 18, .int .u32 x] w fun e w' => e = .returned (.int .u32 (rot 262144 16384 x)) ∧ w' = w := by
  have HR : Hid (rot 262144 16384 x = bits .or .u32 (x / 262144) (x * 16384 % 4294967296)) := rfl
  generalize rot 262144 16384 x = y at *
  go_enter Try.func82, Try.ntmps82
  go_wp2
  go_ret
  exact ⟨by rw [HR.out]; rfl, rfl⟩
set_option maxRecDepth 100000 in
theorem rotr_19 (w : World) (x : Int) : Calls Try.prog 82 #[.int .u64 19, .int .u32 x] w fun e w' => e = .returned (.int .u32 (rot 524288 8192 x)) ∧ w' = w := by
  have HR : Hid (rot 524288 8192 x = bits .or .u32 (x / 524288) (x * 8192 % 4294967296)) := rfl
  generalize rot 524288 8192 x = y at *
  go_enter Try.func82, Try.ntmps82
  go_wp2
  go_ret
  exact ⟨by rw [HR.out]; rfl, rfl⟩
set_option maxRecDepth 100000 in
theorem rotr_22 (w : World) (x : Int) : Calls Try.prog 82 #[.int .u64 22, .int .u32 x] w fun e w' => e = .returned (.int .u32 (rot 4194304 1024 x)) ∧ w' = w := by
  have HR : Hid (rot 4194304 1024 x = bits .or .u32 (x / 4194304) (x * 1024 % 4294967296)) := rfl
  generalize rot 4194304 1024 x = y at *
  go_enter Try.func82, Try.ntmps82
  go_wp2
  go_ret
  exact ⟨by rw [HR.out]; rfl, rfl⟩
set_option maxRecDepth 100000 in
theorem rotr_25 (w : World) (x : Int) : Calls Try.prog 82 #[.int .u64 25, .int .u32 x] w fun e w' => e = .returned (.int .u32 (rot 33554432 128 x)) ∧ w' = w := by
  have HR : Hid (rot 33554432 128 x = bits .or .u32 (x / 33554432) (x * 128 % 4294967296)) := rfl
  generalize rot 33554432 128 x = y at *
  go_enter Try.func82, Try.ntmps82
  go_wp2
  go_ret
  exact ⟨by rw [HR.out]; rfl, rfl⟩
theorem u32_at (l : List Int) (j : Nat) : (u32s l)[j]? = l[j]?.map (fun x => .int .u32 x) := by simp [u32s]
theorem u32_fld {l : List Int} {j : Nat} (h : j < l.length) : (u32s l)[j]? = some (.int .u32 (fld l j)) := by
  rw [u32_at, fld, List.getElem?_eq_getElem h]; rfl
/-- What Sum256 holds. -/
structure SH (w0 w : World) (D : Nat) (v : Value) (Y hs : List Int) : Prop where
  be : Below w0.heap.size w0 w
  eD : D = w0.heap.size
  rt : w.there D 0 32
  kt : w.rangeAt (D + 1) 0 (u32s ktab)
  hr : w.rangeAt (D + 2) 0 (u32s hs)
  ht : w.there (D + 2) 0 8
  bb : BB w (D + 3) v Y
  hl : hs.length = 8
  sz : D + 3 ≤ w.heap.size
theorem SH.below {w0 w w' : World} {D : Nat} {v : Value} {Y hs : List Int} (h : SH w0 w D v Y hs) (k : Below w.heap.size w w') : SH w0 w' D v Y hs := by
  have := h.sz
  exact ⟨lec h.be k, h.eD, there_below h.rt (by omega) k, range_below h.kt (by omega) k, range_below h.hr (by omega) k, there_below h.ht (by omega) k, h.bb.below k, h.hl, Nat.le_trans h.sz k.size⟩
/-- A new block is set. -/
theorem SH.ex {w0 w w' : World} {D : Nat} {v : Value} {Y hs : List Int} (h : SH w0 w D v Y hs) {q : Nat} (k : Ex (fun k => k = q) w w') (hq : D + 3 ≤ q) (hv : v.ownBlock ≠ some q) : SH w0 w' D v Y hs := by
  have := h.sz
  have := h.eD
  refine ⟨?_, h.eD, there_ex h.rt (by omega) k (by omega), range_ex h.kt (by omega) k (by omega), range_ex h.hr (by omega) k (by omega), there_ex h.ht (by omega) k (by omega), h.bb.keep k (fun j hj e => hv (e ▸ hj)), h.hl, Nat.le_trans h.sz k.size⟩
  exact ⟨k.os.trans h.be.os, k.tape.trans h.be.tape, k.output.trans h.be.output, Nat.le_trans h.be.size k.size, fun j hj => (k.block j (Nat.lt_of_lt_of_le hj h.be.size) (by omega)).trans (h.be.block j hj)⟩
theorem SH.setH {w0 w : World} {D : Nat} {v : Value} {Y hs : List Int} (h : SH w0 w D v Y hs) (hs' : List Int) (hl : hs'.length = 8) : SH w0 (w.setCells (D + 2) 0 (u32s hs')) D v Y hs' := by
  have := h.sz
  have := h.eD
  have k : Ex (fun k => k = D + 2) w (w.setCells (D + 2) 0 (u32s hs')) := Ex.sets (S := fun k => k = D + 2) rfl _ _ _ (Ex.refl _ _)
  refine ⟨?_, h.eD, there_ex h.rt (by omega) k (by omega), range_ex h.kt (by omega) k (by omega), World.rangeAt_setCells_same w (D + 2) 0 (u32s hs') (by simpa [u32s, hl] using h.ht), World.there_setCells h.ht _ _ _, h.bb.keep k (fun j hj e => by have := (h.bb.lt j hj).1; omega), hl, Nat.le_trans h.sz k.size⟩
  exact ⟨k.os.trans h.be.os, k.tape.trans h.be.tape, k.output.trans h.be.output, Nat.le_trans h.be.size k.size, fun j hj => (k.block j (Nat.lt_of_lt_of_le hj h.be.size) (by omega)).trans (h.be.block j hj)⟩
structure SHW (w0 w : World) (D : Nat) (v : Value) (Y hs : List Int) (W : Nat) (ws : List Int) : Prop where
  s : SH w0 w D v Y hs
  r : w.rangeAt W 0 (u32s ws)
  t : w.there W 0 64
  l : ws.length = 64
  n : D + 3 ≤ W
  a : v.ownBlock ≠ some W
  z : W < w.heap.size
theorem SHW.below {w0 w w' : World} {D : Nat} {v : Value} {Y hs : List Int} {W : Nat} {ws : List Int} (h : SHW w0 w D v Y hs W ws) (k : Below w.heap.size w w') : SHW w0 w' D v Y hs W ws :=
  ⟨h.s.below k, range_below h.r h.z k, there_below h.t h.z k, h.l, h.n, h.a, Nat.lt_of_lt_of_le h.z k.size⟩
theorem SHW.set {w0 w : World} {D : Nat} {v : Value} {Y hs : List Int} {W : Nat} {ws : List Int} (h : SHW w0 w D v Y hs W ws) (j : Nat) (x : Int) : SHW w0 (w.setCell ⟨W, j, none⟩ (.int .u32 x)) D v Y hs W (ws.set j x) := by
  have k : Ex (fun k => k = W) w (w.setCell ⟨W, j, none⟩ (.int .u32 x)) := (Ex.refl (fun k => k = W) _).set rfl _
  refine ⟨h.s.ex k h.n h.a, ?_, there_set h.t _ _, by simp [h.l], h.n, h.a, by simpa using h.z⟩
  have := range_set h.r j (.int .u32 x)
  rw [Nat.zero_add] at this
  simpa [u32s, List.map_set] using this
theorem SHW.cell {w0 w : World} {D : Nat} {v : Value} {Y hs : List Int} {W : Nat} {ws : List Int} (h : SHW w0 w D v Y hs W ws) {j : Nat} (hj : j < 64) : w.cell? ⟨W, j, none⟩ = some (.int .u32 (fld ws j)) := by
  have := h.r j _ (u32_fld (by rw [h.l]; exact hj))
  rwa [Nat.zero_add] at this
theorem SHW.fz {w0 w : World} {D : Nat} {v : Value} {Y hs : List Int} {W : Nat} {ws : List Int} (h : SHW w0 w D v Y hs W ws) {j : Nat} (hj : j < 64) : w.frozen? ⟨W, j, none⟩ = false := by
  have := (h.t j hj).2
  rwa [Nat.zero_add] at this
theorem SH.byte {w0 w : World} {D g c n : Nat} {Y hs : List Int} (h : SH w0 w D (.slice (some ⟨g, 0, none⟩) n c) Y hs) {j : Nat} (hj : j < Y.length) : w.cell? ⟨g, j, none⟩ = some (.int .u8 (fld Y j)) := by
  have := h.bb.cells rfl j (.int .u8 (fld Y j)) (by rw [List.getElem?_map, fld, List.getElem?_eq_getElem hj]; rfl)
  rw [Addr.add_mid, Nat.zero_add] at this
  exact this
def wd (Y : List Int) (k t : Nat) : Int := bits .or .u32 (bits .or .u32 (bits .or .u32 (fld Y (64 * k + 4 * t) % 4294967296 * 16777216 % 4294967296) (fld Y (64 * k + 4 * t + 1) % 4294967296 * 65536 % 4294967296)) (fld Y (64 * k + 4 * t + 2) % 4294967296 * 256 % 4294967296)) (fld Y (64 * k + 4 * t + 3) % 4294967296)
def w1K (Y : List Int) (k : Nat) (t : Nat) : List Int := itr (fun j ws => ws.set j (wd Y k j)) (List.replicate 64 0) t
theorem w1K_len (Y : List Int) (k t : Nat) : (w1K Y k t).length = 64 := by
  induction t with
  | zero => simp [w1K, itr]
  | succ t ih => rw [w1K, itr, List.length_set]; exact ih
def sg0 (x : Int) : Int := bits .xor .u32 (bits .xor .u32 (rot 128 33554432 x) (rot 262144 16384 x)) (x / 8)
def sg1 (x : Int) : Int := bits .xor .u32 (bits .xor .u32 (rot 131072 32768 x) (rot 524288 8192 x)) (x / 1024)
def wx (ws : List Int) (t : Nat) : Int := (sg1 (fld ws (t - 2)) + fld ws (t - 7) + sg0 (fld ws (t - 15)) + fld ws (t - 16)) % 4294967296
def w2K (Y : List Int) (k : Nat) (j : Nat) : List Int := itr (fun j ws => ws.set (16 + j) (wx ws (16 + j))) (w1K Y k 16) j
def bs0 (x : Int) : Int := bits .xor .u32 (bits .xor .u32 (rot 4 1073741824 x) (rot 8192 524288 x)) (rot 4194304 1024 x)
def bs1 (x : Int) : Int := bits .xor .u32 (bits .xor .u32 (rot 64 67108864 x) (rot 2048 2097152 x)) (rot 33554432 128 x)
def tt1 (ws : List Int) (t : Nat) (e f g h : Int) : Int := ((h + bs1 e + bits .xor .u32 (bits .and .u32 e f) (bits .and .u32 (bits .xor .u32 (if IntKind.u32.signed = true then -1 else IntKind.u32.max) e) g) + fld ktab t) % 4294967296 + fld ws t) % 4294967296
def tt2 (a b c : Int) : Int := (bs0 a + bits .xor .u32 (bits .xor .u32 (bits .and .u32 a b) (bits .and .u32 a c)) (bits .and .u32 b c)) % 4294967296
def rd1 (ws : List Int) (t : Nat) : List Int → List Int
  | [a, b, c, d, e, f, g, h] => [(tt1 ws t e f g h + tt2 a b c) % 4294967296, a, b, c, (d + tt1 ws t e f g h) % 4294967296, e, f, g]
  | l => l
def rdK (ws hs : List Int) (t : Nat) : List Int := itr (rd1 ws) hs t
def add8 (x y : List Int) : List Int := (List.range 8).map fun i => (fld x i + fld y i) % 4294967296
def comp (Y : List Int) (k : Nat) (hs : List Int) : List Int := add8 hs (rdK (w2K Y k 48) hs 64)
def hsK (Y : List Int) (k : Nat) : List Int := itr (comp Y) hini k
theorem w2K_len (Y : List Int) (k t : Nat) : (w2K Y k t).length = 64 := by
  induction t with
  | zero => exact w1K_len Y k 16
  | succ t ih => rw [w2K, itr, List.length_set]; exact ih
def dg1 (hs : List Int) (i : Nat) (l : List Int) : List Int := (((l.set (4 * i) (fld hs i / 16777216 % 256)).set (4 * i + 1) (fld hs i / 65536 % 256)).set (4 * i + 2) (fld hs i / 256 % 256)).set (4 * i + 3) (fld hs i % 256)
def dgK (hs : List Int) (i : Nat) : List Int := itr (dg1 hs) (List.replicate 32 0) i
def shaP (X : List Int) : List Int := dgK (hsK (padP X) 41) 8
theorem dgK_len (hs : List Int) (i : Nat) : (dgK hs i).length = 32 := by
  induction i with
  | zero => simp [dgK, itr]
  | succ i ih => rw [dgK, itr, dg1]; simp only [List.length_set]; exact ih
theorem Try.sz153 : (Try.prog.info? 153).map (·.size) = some 64 := by kernel_rfl
theorem Try.sz154 : (Try.prog.info? 154).map (·.size) = some 8 := by kernel_rfl
theorem Try.sz63 : (Try.prog.info? 63).map (·.size) = some 32 := by kernel_rfl
theorem sets_size (b : Nat) : ∀ (vs : List Value) (o : Nat) (w : World), (w.setCells b o vs).heap.size = w.heap.size
  | [], _, _ => rfl
  | v :: r, o, w => by rw [World.setCells, sets_size b r]; simp
theorem wpL_alloc {P : Program} {ops : Array Oper} {rest : List Oper} {op : Oper} {a : Act} {w : World} {Q : Exit → Act → World → Prop} (hg : op.guard = none) (t : TypeId) (ho : op.op = .alloc t) (i : TypeInfo) (hi : P.info? t = some i) (z : Value) (hz : i.zero = some z)
    (h : wpList P ops Q rest (a.put op.dst (.pointer (some ⟨w.heap.size, 0, none⟩))) (w.alloc (.cells z.cells t))) : wpList P ops Q (op :: rest) a w := by
  refine wpList_plain hg fun K hK => ?_
  unfold Oper.wp
  have hrun : (execOp a.eval op).run P w = .ok (.value (.pointer (some ⟨w.heap.size, 0, none⟩))) (w.alloc (.cells z.cells t)) := by
    unfold execOp
    simp [ho, Instr.alloc, zeroValue, typeInfo, hi, hz, newVar, newRow, newObj]
    rfl
  rw [hrun, Oper.upon_value]
  exact hK _ _ h
theorem wpL_build {P : Program} {ops : Array Oper} {rest : List Oper} {op : Oper} {a : Act} {w : World} {Q : Exit → Act → World → Prop} (hg : op.guard = none) (t : TypeId) (parts : List (Nat × Operand)) (ho : op.op = .build t parts.toArray) (cells : Array Value) (hf : P.built t (parts.map fun p => (p.1, a.eval p.2)) = some cells)
    (h : wpList P ops Q rest (a.put op.dst (.agg cells)) w) : wpList P ops Q (op :: rest) a w := by
  have e : (parts.toArray.map fun (i, x) => (i, a.eval x)).toList = parts.map fun p => (p.1, a.eval p.2) := by simp
  have hf' : P.built t ((parts.toArray.map fun (i, x) => (i, a.eval x)).toList) = some cells := by rw [e]; exact hf
  refine wpList_build hg t parts.toArray ho (by rw [hf']; rfl) ?_
  rw [hf']
  exact h
theorem Try.inf153 : (Try.prog.info? 153).map (fun i => (i.zero, i.size, i.bytes)) = some (some (.agg (u32s (List.replicate 64 0)).toArray), 64, 256) := by kernel_rfl
theorem Try.inf154 : (Try.prog.info? 154).map (fun i => (i.zero, i.size, i.bytes)) = some (some (.agg (u32s (List.replicate 8 0)).toArray), 8, 32) := by kernel_rfl
theorem built_k : Try.prog.built 153 [(0, .int .u32 1116352408), (1, .int .u32 1899447441), (2, .int .u32 3049323471), (3, .int .u32 3921009573), (4, .int .u32 961987163), (5, .int .u32 1508970993), (6, .int .u32 2453635748), (7, .int .u32 2870763221), (8, .int .u32 3624381080), (9, .int .u32 310598401), (10, .int .u32 607225278), (11, .int .u32 1426881987), (12, .int .u32 1925078388), (13, .int .u32 2162078206), (14, .int .u32 2614888103), (15, .int .u32 3248222580), (16, .int .u32 3835390401), (17, .int .u32 4022224774), (18, .int .u32 264347078), (19, .int .u32 604807628), (20, .int .u32 770255983), (21, .int .u32 1249150122), (22, .int .u32 1555081692), (23, .int .u32 1996064986), (24, .int .u32 2554220882), (25, .int .u32 2821834349), (26, .int .u32 2952996808), (27, .int .u32 3210313671), (28, .int .u32 3336571891), (29, .int .u32 3584528711), (30, .int .u32 113926993), (31, .int .u32 338241895), (32, .int .u32 666307205), (33, .int .u32 773529912), (34, .int .u32 1294757372), (35, .int .u32 1396182291), (36, .int .u32 1695183700), (37, .int .u32 1986661051), (38, .int .u32 2177026350), (39, .int .u32 2456956037), (40, .int .u32 2730485921), (41, .int .u32 2820302411), (42, .int .u32 3259730800), (43, .int .u32 3345764771), (44, .int .u32 3516065817), (45, .int .u32 3600352804), (46, .int .u32 4094571909), (47, .int .u32 275423344), (48, .int .u32 430227734), (49, .int .u32 506948616), (50, .int .u32 659060556), (51, .int .u32 883997877), (52, .int .u32 958139571), (53, .int .u32 1322822218), (54, .int .u32 1537002063), (55, .int .u32 1747873779), (56, .int .u32 1955562222), (57, .int .u32 2024104815), (58, .int .u32 2227730452), (59, .int .u32 2361852424), (60, .int .u32 2428436474), (61, .int .u32 2756734187), (62, .int .u32 3204031479), (63, .int .u32 3329325298)] = some (u32s ktab).toArray := by kernel_rfl
theorem built_h : Try.prog.built 154 [(0, .int .u32 1779033703), (1, .int .u32 3144134277), (2, .int .u32 1013904242), (3, .int .u32 2773480762), (4, .int .u32 1359893119), (5, .int .u32 2600822924), (6, .int .u32 528734635), (7, .int .u32 1541459225)] = some (u32s hini).toArray := by kernel_rfl
/-- A new variable that is set at once. -/
theorem new_lit (w : World) (z : Array Value) (t : Nat) (cs : List Value) (hz : z.size = cs.length) : ((w.alloc (.cells z t)).setCells w.heap.size 0 cs).rangeAt w.heap.size 0 cs ∧ ((w.alloc (.cells z t)).setCells w.heap.size 0 cs).there w.heap.size 0 cs.length ∧ Below w.heap.size w ((w.alloc (.cells z t)).setCells w.heap.size 0 cs) ∧ ((w.alloc (.cells z t)).setCells w.heap.size 0 cs).heap.size = w.heap.size + 1 := by
  have ht := newTz w z t
  rw [hz] at ht
  have ex : Ex (fun k => k = w.heap.size) (w.alloc (.cells z t)) ((w.alloc (.cells z t)).setCells w.heap.size 0 cs) := Ex.sets (S := fun k => k = w.heap.size) rfl _ _ _ (Ex.refl _ _)
  refine ⟨World.rangeAt_setCells_same _ _ 0 cs ht, World.there_setCells ht _ _ _, (be1 w _).trans (ex.below (by simp) (fun k hk e => by omega)), ?_⟩
  rw [sets_size]
  simp
theorem u32s_one (l : List Int) : ∀ u ∈ u32s l, u.oneCell' = true := fun u hu => by
  obtain ⟨x, _, rfl⟩ := List.mem_map.1 hu; rfl
end Go.Proofs.Qxb6500784a
