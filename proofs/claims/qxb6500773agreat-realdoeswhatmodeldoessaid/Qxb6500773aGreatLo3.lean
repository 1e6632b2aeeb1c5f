import Derived.Test.Qxb6500773aGreatLo2
import Derived.Deep.CutBlock
namespace Go.Proofs.Qxb6500773aGreat
set_option maxRecDepth 100000
open Go.RowKit

theorem AR.putL {w w2 : World} {B b o : Nat} {va ve : Value} {L E C : List Int} (h : AR w B b o va ve L E) {g cap n : Nat} (hn : n = (L ++ C).length) (hr : w2.ownsRow B 64 1 (.slice (some ⟨g, 0, none⟩) n cap) n (L.map (Value.int .i32) ++ C.map (Value.int .i32))) (hg : w.grownBy w2 va.ownBlock) (hat : va.ownBlock = some g ∨ g = w.heap.size) :
    AR (w2.setCell ⟨b, o, none⟩ (.slice (some ⟨g, 0, none⟩) n cap)) B b o (.slice (some ⟨g, 0, none⟩) (L ++ C).length cap) ve (L ++ C) E ∧ Ex (fun k => k = b ∨ va.ownBlock = some k) w (w2.setCell ⟨b, o, none⟩ (.slice (some ⟨g, 0, none⟩) n cap)) ∧ ∀ j u, j ≠ o → w.cell? ⟨b, j, none⟩ = some u → (w2.setCell ⟨b, o, none⟩ (.slice (some ⟨g, 0, none⟩) n cap)).cell? ⟨b, j, none⟩ = some u := by
  subst hn
  have e1 : Ex (fun k => va.ownBlock = some k) w w2 := Ex.ofGrown hg (fun k z => z.symm)
  have ex : Ex (fun k => k = b ∨ va.ownBlock = some k) w (w2.setCell ⟨b, o, none⟩ (.slice (some ⟨g, 0, none⟩) (L ++ C).length cap)) := (e1.mono fun k z => .inr z).set (.inl rfl) _
  have gb : g ≠ b := by
    rcases hat with z | z
    · exact fun e => h.a0 (e ▸ z)
    · have := h.lt; omega
  have gv : ve.ownBlock ≠ some g := by
    rcases hat with z | z
    · exact h.a2 g z
    · exact own_far h.r1 (by omega)
  have c0 : w2.cell? ⟨b, o, none⟩ = some va := e1.cell h.a0 h.c0
  have hse : Ex (fun k => k = b) w2 (w2.setCell ⟨b, o, none⟩ (.slice (some ⟨g, 0, none⟩) (L ++ C).length cap)) := (Ex.refl (fun k => k = b) _).set (p := b) rfl _
  refine ⟨⟨?_, ?_, ?_, ?_, ?_, ?_, h.a1, ?_⟩, ex, fun j u hj hu => by rw [World.cell?_setCell_other _ _ _ _ (by simp)]; exact e1.cell h.a0 hu⟩
  · rw [World.cell?_setCell_same _ _ _ c0]
  · rw [World.cell?_setCell_other _ _ _ _ (by simp)]
    exact e1.cell h.a0 h.c1
  · intro j
    rw [set_frozen]
    exact (e1.frozen h.a0 h.lt).trans (h.f j)
  · rw [List.map_append]
    exact own_kept hr hse (fun k z e => gb (by cases z; exact e))
  · exact own_kept h.r1 ex (fun k z e => e.elim (fun e => h.a1 (e ▸ z)) (fun e => h.a2 k e z))
  · intro z; cases z; exact gb rfl
  · intro k z; cases z; exact gv
def PsPost (w : World) (B b o : Nat) (va ve : Value) (L E C : List Int) (e : Ending) (w' : World) : Prop := e = .returned (.tuple #[]) ∧ ∃ va' ve', AR w' B b o va' ve' (L ++ C) (E ++ [((L ++ C).length : Int)]) ∧ Ex (fun k => k = b ∨ va.ownBlock = some k ∨ ve.ownBlock = some k) w w' ∧ (∀ j u, j ≠ o → j ≠ o + 1 → w.cell? ⟨b, j, none⟩ = some u → w'.cell? ⟨b, j, none⟩ = some u) ∧ (∀ k, va'.ownBlock = some k → va.ownBlock = some k ∨ w.heap.size ≤ k) ∧ (∀ k, ve'.ownBlock = some k → ve.ownBlock = some k ∨ w.heap.size ≤ k)
set_option linter.unusedSimpArgs false in
set_option maxRecDepth 100000 in
set_option maxHeartbeats 4000000 in
/-- cnf.arena.push -/
theorem push_any (w : World) (B b o : Nat) (va ve : Value) (L E : List Int) (g' o' c' : Nat) (C : List Int) (h : AR w B b o va ve L E) (hB : B ≤ w.heap.size) (hL : L.length + C.length ≤ 1000000000) (hE : E.length ≤ 1000000000) (hc : CL w (some ⟨g', o', none⟩) C) (hne : 0 < C.length) :
    Calls Tryz.prog 149 #[.pointer (some ⟨b, o, none⟩), .slice (some ⟨g', o', none⟩) C.length c'] w (PsPost w B b o va ve L E C) := by
  obtain ⟨i0, hi0, hz0, hz1, hz2⟩ := info_of Tryz.info64
  have HI := hide (And.intro hi0 (And.intro hz0 (And.intro hz1 hz2)))
  clear hi0 hz0 hz1 hz2
  have HA := hide h
  have HBS := hide hB
  have HLL := hide hL
  have HEL := hide hE
  have HNE := hide hne
  have c0 := h.c0
  have f0 := h.f
  have HNC := hide (show ∀ (j : Nat) (u : Value), (C.map (Value.int .i32))[j]? = some u → w.cell? ((⟨g', o', none⟩ : Addr).add j) = some u from fun j u hj => by
    rw [List.getElem?_map] at hj
    cases hx : C[j]? with
    | none => rw [hx] at hj; cases hj
    | some x =>
      rw [hx] at hj
      cases hj
      obtain ⟨g2, o2, e2, hcell⟩ := hc j x hx
      cases e2
      rw [Addr.add_mid]
      exact hcell)
  obtain ⟨a, c, rfl⟩ := own_form h.r0
  clear h hB hL hE hc hne
  go_enter Tryz.func149, Tryz.ntmps149
  go_upto_region 1 with (at_builtin; go_loud (refine wpList_append_lies2 rfl (.tmp 8) (.tmp 9) 53 54 rfl 64 Tryz.underlying54 B 64 i0 _ 1 4 Tryz.underlying53 HI.out.1 HI.out.2.1 HI.out.2.2.1 HI.out.2.2.2 rfl (by decide) (.slice a L.length c) L.length (L.map (Value.int .i32)) rfl HA.out.r0 ⟨g', o', none⟩ C.length c' (C.map (Value.int .i32)) rfl (by rw [List.length_map, Nat.mul_one]) HNC.out (fun u hu => by obtain ⟨x, -, rfl⟩ := List.mem_map.1 hu; rfl) HNE.out (by have := HLL.out; unfold maxLen; omega) (by have := HLL.out; omega) HBS.out _ rfl ?_; intro g cap w2 hr hg hat hlt2; have HP := hide (HA.out.putL (C := C) (List.length_append).symm hr hg hat); have HG := hide (show Value.ownBlock (.slice a L.length c) = some g ∨ w.heap.size ≤ g from hat.imp id (fun z => Nat.le_of_eq z.symm)); have c0' := (show w2.cell? ⟨b, o, none⟩ = some (.slice a L.length c) from (Ex.ofGrown hg (S := fun k => Value.ownBlock (.slice a L.length c) = some k) (fun k z => z.symm)).cell HA.out.a0 HA.out.c0); have f0' := (show w2.frozen? ⟨b, o, none⟩ = false from ((Ex.ofGrown hg (S := fun k => Value.ownBlock (.slice a L.length c) = some k) (fun k z => z.symm)).frozen HA.out.a0 HA.out.lt).trans (HA.out.f o)); clear hr hg hat))
  generalize World.setCell w2 ⟨b, o, none⟩ (.slice (some ⟨g, 0, none⟩) (L.length + C.length) cap) = w3 at *
  clear c0 c0' f0 f0' HNC
  obtain ⟨LL, hLL⟩ : ∃ LL, L ++ C = LL := ⟨_, rfl⟩
  have HLE := hide hLL
  rw [hLL] at HP
  clear hLL
  go_wp2_with fail
  refine (finish_any w3 B b o _ ve LL E HP.out.1 (Nat.le_trans HBS.out HP.out.2.1.size) (by have := HEL.out; omega)).mono ?_
  rintro e w4 ⟨rfl, g8, c8, har, hex, hg8, hkp⟩
  have HPO := hide (show PsPost w B b o (.slice a L.length c) ve L E C (.returned (.tuple #[])) w4 from by
    refine ⟨rfl, _, _, by rw [HLE.out]; exact har, ?_, ?_, ?_, ?_⟩
    · exact (HP.out.2.1.mono fun k z => z.elim .inl (fun z => .inr (.inl z))).trans (hex.mono fun k z => z.elim .inl (fun z => .inr (.inr z)))
    · exact fun j u h1 h2 hu => hkp j u h2 (HP.out.2.2 j u h1 hu)
    · intro k z
      have : g = k := Option.some.inj z
      subst this
      exact HG.out
    · intro k z
      have : g8 = k := Option.some.inj z
      subst this
      exact hg8.imp id (fun z => Nat.le_trans HP.out.2.1.size z))
  clear har hex hg8 hkp
  go_wp2
  exact bodyPost_ret (v := .tuple #[]) (by simp [results, Tryz.results149, go_sem]) rfl HPO.out
end Go.Proofs.Qxb6500773aGreat
