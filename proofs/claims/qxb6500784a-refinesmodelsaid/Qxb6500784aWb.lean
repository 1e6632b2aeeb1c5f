import Derived.Test.Qxb6500784aWv
import Derived.Great.FillDense
namespace Go.Proofs.Qxb6500784a
open Go.RowKit

/-! ### A world built of its five parts -/
theorem fold_part (pre old post new : List Value) (hl : old.length = new.length) : ((new.toArray.zipIdx).foldl (fun cs (x : Value × Nat) => cs.setIfInBounds (pre.length + x.2) x.1) (pre ++ (old ++ post)).toArray) = (pre ++ (new ++ post)).toArray := by
  obtain ⟨h1, h2⟩ := Go.Great.foldl_set pre.length new 0 (pre ++ (old ++ post)).toArray
  have e : (new.toArray.zipIdx).foldl (fun cs (x : Value × Nat) => cs.setIfInBounds (pre.length + x.2) x.1) (pre ++ (old ++ post)).toArray = ((new.zipIdx 0).foldl (fun cs (x : Value × Nat) => cs.setIfInBounds (pre.length + x.2) x.1) (pre ++ (old ++ post)).toArray) := by
    simp
  rw [e]
  apply Array.ext_getElem?
  intro k
  rw [h2 k]
  simp only [Nat.add_zero, List.getElem?_toArray, List.size_toArray, List.length_append]
  by_cases hk : pre.length ≤ k ∧ k < pre.length + new.length
  · rw [if_pos ⟨hk.1, hk.2, by omega⟩, List.getElem?_append_right hk.1, List.getElem?_append_left (by omega)]
  · rw [if_neg (by omega)]
    by_cases h3 : k < pre.length
    · rw [List.getElem?_append_left h3, List.getElem?_append_left h3]
    · rw [List.getElem?_append_right (by omega), List.getElem?_append_right (by omega), List.getElem?_append_right (by omega), List.getElem?_append_right (by omega), hl]
theorem Try.inz56 : (Try.prog.info? 56).map (fun i => i.zero.map (fun z => z.cells.toList)) = some (some (prV (prZ 0 0 0 0 0))) := by kernel_rfl
theorem Try.pl56 : (Try.prog.underlying 56).bind (fun d => match d with | .struct fs => fs.toList.mapM (fun f => (Try.prog.info? f.type).map fun i => (f.offset, i.size)) | _ => none) = some [(0, 326), (326, 326), (652, 5), (657, 5), (662, 5)] := by kernel_rfl
set_option linter.unusedSimpArgs false in
theorem built_w {Va Vb Vc Vd Ve : List Value} (ha : Va.length = 326) (hb : Vb.length = 326) (hc : Vc.length = 5) (hd : Vd.length = 5) (he : Ve.length = 5) :
    Try.prog.built 56 [(0, .agg Va.toArray), (1, .agg Vb.toArray), (2, .agg Vc.toArray), (3, .agg Vd.toArray), (4, .agg Ve.toArray)] = some (Va ++ (Vb ++ (Vc ++ (Vd ++ Ve)))).toArray := by
  obtain ⟨Za, Zb, Zc, Zd, Ze, hz, za, zb, zc, zd, ze⟩ : ∃ Za Zb Zc Zd Ze : List Value, prV (prZ 0 0 0 0 0) = Za ++ (Zb ++ (Zc ++ (Zd ++ Ze))) ∧ Za.length = 326 ∧ Zb.length = 326 ∧ Zc.length = 5 ∧ Zd.length = 5 ∧ Ze.length = 5 :=
    ⟨_, _, _, _, _, rfl, by kernel_rfl, by kernel_rfl, by kernel_rfl, by kernel_rfl, by kernel_rfl⟩
  have h1 := Try.inz56
  have h2 := Try.pl56
  generalize prV (prZ 0 0 0 0 0) = Z0 at *
  unfold Program.built
  cases hi : Try.prog.info? 56 with
  | none => rw [hi] at h1; cases h1
  | some it =>
    rw [hi] at h1
    cases hu : Try.prog.underlying 56 with
    | none => rw [hu] at h2; cases h2
    | some d =>
      rw [hu] at h2
      cases d with
      | struct fs =>
        simp only [Option.bind_some] at h2
        cases hz0 : it.zero with
        | none => simp [hz0] at h1
        | some z =>
          rw [Option.map_some, hz0, Option.map_some] at h1
          have h1 := Option.some.inj (Option.some.inj h1)
          have hzc : z.cells = (Za ++ (Zb ++ (Zc ++ (Zd ++ Ze)))).toArray := by
            rw [← hz, ← h1]
          simp only [h2, hz0, hzc]
          have f1 := fold_part [] Za (Zb ++ (Zc ++ (Zd ++ Ze))) Va (by omega)
          have f2 := fold_part Va Zb (Zc ++ (Zd ++ Ze)) Vb (by omega)
          have f3 := fold_part (Va ++ Vb) Zc (Zd ++ Ze) Vc (by omega)
          have f4 := fold_part (Va ++ Vb ++ Vc) Zd Ze Vd (by omega)
          have f5 := fold_part (Va ++ Vb ++ Vc ++ Vd) Ze [] Ve (by omega)
          simp only [List.length_append, List.length_nil, List.nil_append, List.append_nil, List.append_assoc, ha, hb, hc, hd] at f1 f2 f3 f4 f5
          simp only [Nat.zero_add] at f1
          simp only [Instr.fill, Value.cells, List.getElem?_toArray, List.getElem?_cons_zero, List.getElem?_cons_succ, List.size_toArray, List.length_append, ha, hb, hc, hd, he, za, zb, zc, zd, ze]
          have g1 : List.foldl (fun (cs : Array Value) (x : Value × Nat) => cs.setIfInBounds x.snd x.fst) (Za ++ (Zb ++ (Zc ++ (Zd ++ Ze)))).toArray Va.zipIdx = (Va ++ (Zb ++ (Zc ++ (Zd ++ Ze)))).toArray := by simpa using f1
          have g2 : List.foldl (fun (cs : Array Value) (x : Value × Nat) => cs.setIfInBounds (326 + x.snd) x.fst) (Va ++ (Zb ++ (Zc ++ (Zd ++ Ze)))).toArray Vb.zipIdx = (Va ++ (Vb ++ (Zc ++ (Zd ++ Ze)))).toArray := by simpa using f2
          have g3 : List.foldl (fun (cs : Array Value) (x : Value × Nat) => cs.setIfInBounds (652 + x.snd) x.fst) (Va ++ (Vb ++ (Zc ++ (Zd ++ Ze)))).toArray Vc.zipIdx = (Va ++ (Vb ++ (Vc ++ (Zd ++ Ze)))).toArray := by simpa using f3
          have g4 : List.foldl (fun (cs : Array Value) (x : Value × Nat) => cs.setIfInBounds (657 + x.snd) x.fst) (Va ++ (Vb ++ (Vc ++ (Zd ++ Ze)))).toArray Vd.zipIdx = (Va ++ (Vb ++ (Vc ++ (Vd ++ Ze)))).toArray := by simpa using f4
          have g5 : List.foldl (fun (cs : Array Value) (x : Value × Nat) => cs.setIfInBounds (662 + x.snd) x.fst) (Va ++ (Vb ++ (Vc ++ (Vd ++ Ze)))).toArray Ve.zipIdx = (Va ++ (Vb ++ (Vc ++ (Vd ++ Ve)))).toArray := by simpa using f5
          simp [g1, g2, g3, g4, g5, ha, hb, hc, hd, he, za, zb, zc, zd, ze]
      | _ => cases h2
end Go.Proofs.Qxb6500784a
