import Derived.Test.Qxb6500778aQ2
namespace Go.Proofs.Qxb6500778a
open Go.RowKit

def b_permit : ByteArray := ⟨#[112, 101, 114, 109, 105, 116]⟩
/-- what the real parser does for a field of a shape -/
def fR (s : List Int) (f : List Int) (d : Int) (x : PSt) : PSt :=
  if f = [68] then bndP s 3 15 x else
  if f = [72] then bndP s 3 15 x else
  if f = [76] then (if (bndP s 3 15 x).e = 0 then (if bndV 3 15 x ≤ d then failP (bndP s 3 15 x) 3 x.t.q else bndP s 3 15 x) else bndP s 3 15 x) else
  if f = [73] then bndP s 2 63 x else
  if f = [65] then eitP s s_permit s_deny x else
  if f = [85] then eitP s s_up s_down x else
  if f = [67] then (if (decide (x.e = 0) && isW x s_any) = true then advP s x else bndP s 2 15 x) else
  if f = [80] then prefX s x else wordP s (strOfNums f) x
def fC (s : List Int) (f : List Int) (x : PSt) (c : Chg) : Chg :=
  if f = [68] then { c with dv := bndV 3 15 x } else
  if f = [72] then { c with hp := bndV 3 15 x } else
  if f = [76] then { c with hp := bndV 3 15 x } else
  if f = [73] then { c with ix := bndV 2 63 x } else
  if f = [65] then { c with pm := eitB x s_permit } else
  if f = [85] then { c with up := eitB x s_up } else
  if f = [67] then (if (decide (x.e = 0) && isW x s_any) = true then { c with cl := 16 } else { c with cl := bndV 2 15 x }) else
  if f = [80] then prefC s x c else c
/-- behind a fault nothing turns -/
theorem bnd_off {s : List Int} {x : PSt} (h : x.e ≠ 0) (k m : Int) : bndP s k m x = x := by unfold bndP; rw [if_neg h]
theorem word_off {s : List Int} {x : PSt} (h : x.e ≠ 0) (y : ByteArray) : wordP s y x = x := by unfold wordP; rw [if_neg h]
theorem eit_off {s : List Int} {x : PSt} (h : x.e ≠ 0) (y z : ByteArray) : eitP s y z x = x := by unfold eitP; rw [if_neg h]
theorem punct_off {s : List Int} {x : PSt} (h : x.e ≠ 0) (k : Int) : punctP s k x = x := by unfold punctP; rw [if_neg h]
theorem pref_off {s : List Int} {x : PSt} (h : x.e ≠ 0) : prefX s x = x := by
  unfold prefX
  simp only [bnd_off h, punct_off h, if_neg h]
theorem fR_off {s : List Int} {x : PSt} (h : x.e ≠ 0) (f : List Int) (d : Int) : fR s f d x = x := by
  unfold fR
  by_cases k1 : f = [68]
  · rw [if_pos k1]; exact bnd_off h _ _
  · rw [if_neg k1]
    by_cases k2 : f = [72]
    · rw [if_pos k2]; exact bnd_off h _ _
    · rw [if_neg k2]
      by_cases k3 : f = [76]
      · rw [if_pos k3, bnd_off h, if_neg h]
      · rw [if_neg k3]
        by_cases k4 : f = [73]
        · rw [if_pos k4]; exact bnd_off h _ _
        · rw [if_neg k4]
          by_cases k5 : f = [65]
          · rw [if_pos k5]; exact eit_off h _ _
          · rw [if_neg k5]
            by_cases k6 : f = [85]
            · rw [if_pos k6]; exact eit_off h _ _
            · rw [if_neg k6]
              by_cases k7 : f = [67]
              · rw [if_pos k7, if_neg (by rw [decide_eq_false h, Bool.false_and]; decide)]; exact bnd_off h _ _
              · rw [if_neg k7]
                by_cases k8 : f = [80]
                · rw [if_pos k8]; exact pref_off h
                · rw [if_neg k8]; exact word_off h _
def runR (s : List Int) : List (List Int) → PSt → Chg → PSt × Chg
  | [], x, c => (x, c)
  | f :: fs, x, c => runR s fs (fR s f c.dv x) (fC s f x c)
theorem runR_off {s : List Int} : ∀ (fs : List (List Int)) (x : PSt) (c : Chg), x.e ≠ 0 → (runR s fs x c).1 = x
  | [], _, _, _ => rfl
  | f :: fs, x, c, h => by
    show (runR s fs (fR s f c.dv x) (fC s f x c)).1 = x
    rw [fR_off h]
    exact runR_off fs x _ h
theorem uV_rng {r : Bool} {l : List Int} {m : Int} (h : uE r l m = 0) : 0 ≤ uV r l m ∧ uV r l m ≤ m := by
  unfold uE at h
  unfold uV
  split at h
  · rename_i h1
    rw [if_pos h1]
    split at h
    · cases h
    · rename_i h2
      rw [if_neg h2]
      exact ⟨dgV_pos _, by omega⟩
  · exact absurd h (wrE_ne l)
theorem k4_iff {m : List Int} (h : Wordy m) (hk : kOf m = 4) : m = [47] := by
  rcases h with rfl | ⟨c, rfl, hc⟩ | ⟨hne, hall⟩
  · cases hk
  · unfold kOf at hk
    simp only [] at hk
    rw [if_neg (by rw [hc]; decide)] at hk
    split at hk
    · rename_i e; rw [e]
    · split at hk
      · cases hk
      · split at hk <;> cases hk
  · cases m with
    | nil => exact absurd rfl hne
    | cons c r =>
      rw [List.all_cons, Bool.and_eq_true] at hall
      unfold kOf at hk
      simp only [] at hk
      rw [if_pos hall.1] at hk
      split at hk
      · cases hk
      · split at hk <;> cases hk
section
variable {s : List Int} {L : List Wd} {x : PSt} {j : Nat}
/-- a prefix -/
theorem pref_at (hb : Byt s) (h : At s L x j) (c : Chg) : ((slP [80] L j c).2.2.1 = 0 → At s L (prefX s x) (j + (slP [80] L j c).2.1) ∧ prefC s x c = (slP [80] L j c).1) ∧ ((slP [80] L j c).2.2.1 ≠ 0 → Bad (prefX s x) (slP [80] L j c).2.2.1 (slP [80] L j c).2.2.2) := by
  obtain ⟨a1, a2, a3⟩ := bnd2 hb h 255
  have hq := h.tw.q
  have es : slP [80] L j c = if uE false (wdAt L j).t 255 = 0 then
      (if (wdAt L (j + 1)).t = [47] then ({ { c with pr := uV false (wdAt L j).t 255 } with ln := uV false (wdAt L (j + 2)).t 8 }, 3, pfE (wdAt L j).t (wdAt L (j + 2)).t, if pfE (wdAt L j).t (wdAt L (j + 2)).t = 0 then 0 else if uE false (wdAt L (j + 2)).t 8 = 0 then (wdAt L j).q else (wdAt L (j + 2)).q)
       else ({ c with pr := uV false (wdAt L j).t 255 }, 0, wrE (wdAt L (j + 1)).t, (wdAt L (j + 1)).q))
    else ({ c with pr := uV false (wdAt L j).t 255 }, 0, uE false (wdAt L j).t 255, (wdAt L j).q) := by
    unfold slP
    delta slQ
    dsimp only
    rw [if_neg (by decide), if_neg (by decide), if_neg (by decide), if_neg (by decide), if_neg (by decide), if_neg (by decide), if_neg (by decide), if_pos rfl]
  rw [es]
  by_cases k1 : uE false (wdAt L j).t 255 = 0
  · rw [if_pos k1]
    have h1 := a1 k1
    have v1 := a2 k1
    obtain ⟨p1, p2⟩ := punct_at hb h1 (k := 4) (l := [47]) rfl (fun m hm hk => k4_iff hm hk) (by decide)
    by_cases k2 : (wdAt L (j + 1)).t = [47]
    · rw [if_pos k2]
      have h2 := p1 k2
      obtain ⟨b1, b2, b3⟩ := bnd2 hb h2 8
      have ex : prefX s x = if (bndP s 2 8 (punctP s 4 (bndP s 2 255 x))).e = 0 then (if algB (bndV 2 255 x) (bndV 2 8 (punctP s 4 (bndP s 2 255 x))) = false then failP (bndP s 2 8 (punctP s 4 (bndP s 2 255 x))) 3 x.t.q else bndP s 2 8 (punctP s 4 (bndP s 2 255 x))) else bndP s 2 8 (punctP s 4 (bndP s 2 255 x)) := rfl
      rw [ex]
      show (pfE _ _ = 0 → _) ∧ (pfE _ _ ≠ 0 → Bad _ (pfE _ _) _)
      by_cases k3 : uE false (wdAt L (j + 2)).t 8 = 0
      · have h3 := b1 k3
        have v3 := b2 k3
        have r1 := uV_rng k1
        have r3 := uV_rng k3
        rw [if_pos h3.e, v1, v3]
        have eg : gfM (uV false (wdAt L j).t 255) (uV false (wdAt L (j + 2)).t 8) = algB (uV false (wdAt L j).t 255) (uV false (wdAt L (j + 2)).t 8) := by
          unfold gfM
          rw [decide_eq_true (by omega)]
          rfl
        have ep : pfE (wdAt L j).t (wdAt L (j + 2)).t = if algB (uV false (wdAt L j).t 255) (uV false (wdAt L (j + 2)).t 8) = true then 0 else 3 := by
          unfold pfE
          rw [if_pos k3, eg]
        rw [ep]
        cases hg : algB (uV false (wdAt L j).t 255) (uV false (wdAt L (j + 2)).t 8) with
        | true =>
          rw [if_pos rfl, if_neg (by decide)]
          refine ⟨fun _ => ⟨h3, ?_⟩, fun h => absurd rfl h⟩
          unfold prefC
          rw [v1, v3]
        | false =>
          rw [if_neg (by decide), if_pos rfl]
          refine ⟨fun h => (by cases h), fun _ => ?_⟩
          rw [if_neg (by decide), if_pos k3]
          unfold failP
          rw [if_pos h3.e, hq]
          exact ⟨rfl, rfl⟩
      · have hbad := b3 k3
        have ep : pfE (wdAt L j).t (wdAt L (j + 2)).t = uE false (wdAt L (j + 2)).t 8 := by unfold pfE; rw [if_neg k3]
        have ne : (bndP s 2 8 (punctP s 4 (bndP s 2 255 x))).e ≠ 0 := by rw [hbad.1]; exact k3
        rw [if_neg ne, ep]
        refine ⟨fun h => absurd h k3, fun _ => ?_⟩
        rw [if_neg k3, if_neg k3]
        exact hbad
    · rw [if_neg k2]
      have hbad := p2 k2
      have ne : (punctP s 4 (bndP s 2 255 x)).e ≠ 0 := by rw [hbad.1]; exact wrE_ne _
      have ex : prefX s x = punctP s 4 (bndP s 2 255 x) := by
        unfold prefX
        simp only [bnd_off ne, if_neg ne]
      refine ⟨fun h => absurd h (wrE_ne _), fun _ => ?_⟩
      rw [ex]
      exact hbad
  · rw [if_neg k1]
    have hbad := a3 k1
    have ne : (bndP s 2 255 x).e ≠ 0 := by rw [hbad.1]; exact k1
    have ex : prefX s x = bndP s 2 255 x := by
      unfold prefX
      simp only [punct_off ne, bnd_off ne, if_neg ne]
    refine ⟨fun h => absurd h k1, fun _ => ?_⟩
    rw [ex]
    exact hbad
/-- one field -/
theorem fR_at (hb : Byt s) (h : At s L x j) (c : Chg) (f : List Int) (hf : f = [68] ∨ f = [72] ∨ f = [76] ∨ f = [73] ∨ f = [65] ∨ f = [85] ∨ f = [67] ∨ f = [80] ∨ (f ∉ [[68], [72], [76], [73], [65], [85], [67], [80]] ∧ Byt f ∧ kwOk (strOfNums f) = true)) :
    ((slP f L j c).2.2.1 = 0 → At s L (fR s f c.dv x) (j + (slP f L j c).2.1) ∧ fC s f x c = (slP f L j c).1) ∧ ((slP f L j c).2.2.1 ≠ 0 → Bad (fR s f c.dv x) (slP f L j c).2.2.1 (slP f L j c).2.2.2) := by
  have fa : ∀ {e q : Int}, e ≠ 0 → faE e q = q := fun h => by unfold faE; rw [if_neg h]
  rcases hf with rfl | rfl | rfl | rfl | rfl | rfl | rfl | rfl | ⟨hn, hby, hkw⟩
  · obtain ⟨a1, a2, a3⟩ := bnd3 hb h 15
    refine ⟨fun e => ⟨a1 e, ?_⟩, fun e => ?_⟩
    · show ({ c with dv := bndV 3 15 x } : Chg) = { c with dv := uV true (wdAt L j).t 15 }
      rw [a2 e]
    · have := a3 e
      show Bad _ (uE true (wdAt L j).t 15) (faE (uE true (wdAt L j).t 15) (wdAt L j).q)
      rw [@fa (uE true (wdAt L j).t 15) _ e]
      exact this
  · obtain ⟨a1, a2, a3⟩ := bnd3 hb h 15
    refine ⟨fun e => ⟨a1 e, ?_⟩, fun e => ?_⟩
    · show ({ c with hp := bndV 3 15 x } : Chg) = { c with hp := uV true (wdAt L j).t 15 }
      rw [a2 e]
    · have := a3 e
      show Bad _ (uE true (wdAt L j).t 15) (faE (uE true (wdAt L j).t 15) (wdAt L j).q)
      rw [@fa (uE true (wdAt L j).t 15) _ e]
      exact this
  · obtain ⟨a1, a2, a3⟩ := bnd3 hb h 15
    have hq := h.tw.q
    have er : fR s [76] c.dv x = if (bndP s 3 15 x).e = 0 then (if bndV 3 15 x ≤ c.dv then failP (bndP s 3 15 x) 3 x.t.q else bndP s 3 15 x) else bndP s 3 15 x := rfl
    show (lkE (wdAt L j).t c.dv = 0 → At s L (fR s [76] c.dv x) (j + 1) ∧ ({ c with hp := bndV 3 15 x } : Chg) = { c with hp := uV true (wdAt L j).t 15 }) ∧ (lkE (wdAt L j).t c.dv ≠ 0 → Bad (fR s [76] c.dv x) (lkE (wdAt L j).t c.dv) (faE (lkE (wdAt L j).t c.dv) (wdAt L j).q))
    rw [er]
    unfold lkE
    by_cases k1 : uE true (wdAt L j).t 15 = 0
    · have h1 := a1 k1
      rw [if_pos k1, if_pos h1.e, a2 k1]
      by_cases k2 : uV true (wdAt L j).t 15 ≤ c.dv
      · rw [if_pos k2, if_pos k2]
        refine ⟨fun h => (by cases h), fun _ => ?_⟩
        unfold failP faE
        rw [if_pos h1.e, if_neg (by decide), hq]
        exact ⟨rfl, rfl⟩
      · rw [if_neg k2, if_neg k2]
        exact ⟨fun _ => ⟨h1, rfl⟩, fun h => absurd rfl h⟩
    · have hbad := a3 k1
      have ne : (bndP s 3 15 x).e ≠ 0 := by rw [hbad.1]; exact k1
      rw [if_neg k1, if_neg ne]
      refine ⟨fun h => absurd h k1, fun _ => ?_⟩
      rw [fa k1]
      exact hbad
  · obtain ⟨a1, a2, a3⟩ := bnd2 hb h 63
    refine ⟨fun e => ⟨a1 e, ?_⟩, fun e => ?_⟩
    · show ({ c with ix := bndV 2 63 x } : Chg) = { c with ix := uV false (wdAt L j).t 63 }
      rw [a2 e]
    · have := a3 e
      show Bad _ (uE false (wdAt L j).t 63) (faE (uE false (wdAt L j).t 63) (wdAt L j).q)
      rw [@fa (uE false (wdAt L j).t 63) _ e]
      exact this
  · obtain ⟨a1, a2, a3⟩ := eit_at hb h kw_permit kw_deny
    refine ⟨fun e => ⟨a1 e, ?_⟩, fun e => ?_⟩
    · show ({ c with pm := eitB x s_permit } : Chg) = { c with pm := ((wdAt L j).t == strL s_permit) }
      rw [a3]
    · have := a2 e
      show Bad _ (chE (wdAt L j).t s_permit s_deny) (faE (chE (wdAt L j).t s_permit s_deny) (wdAt L j).q)
      rw [@fa (chE (wdAt L j).t s_permit s_deny) _ e]
      exact this
  · obtain ⟨a1, a2, a3⟩ := eit_at hb h kw_up kw_down
    refine ⟨fun e => ⟨a1 e, ?_⟩, fun e => ?_⟩
    · show ({ c with up := eitB x s_up } : Chg) = { c with up := ((wdAt L j).t == strL s_up) }
      rw [a3]
    · have := a2 e
      show Bad _ (chE (wdAt L j).t s_up s_down) (faE (chE (wdAt L j).t s_up s_down) (wdAt L j).q)
      rw [@fa (chE (wdAt L j).t s_up s_down) _ e]
      exact this
  · have es : slP [67] L j c = if (wdAt L j).t = strL s_any then ({ c with cl := 16 }, 1, 0, 0) else ({ c with cl := uV false (wdAt L j).t 15 }, 1, uE false (wdAt L j).t 15, faE (uE false (wdAt L j).t 15) (wdAt L j).q) := rfl
    have er : fR s [67] c.dv x = if (decide (x.e = 0) && isW x s_any) = true then advP s x else bndP s 2 15 x := rfl
    have ec : fC s [67] x c = if (decide (x.e = 0) && isW x s_any) = true then { c with cl := 16 } else { c with cl := bndV 2 15 x } := rfl
    have ei : (decide (x.e = 0) && isW x s_any) = ((wdAt L j).t == strL s_any) := by rw [decide_eq_true h.e, Bool.true_and, isW_at h kw_any]
    rw [es, er, ec, ei]
    by_cases k1 : (wdAt L j).t = strL s_any
    · have e2 : ((wdAt L j).t == strL s_any) = true := by rw [k1]; exact beq_self_eq_true _
      rw [if_pos k1, e2, if_pos rfl, if_pos rfl]
      exact ⟨fun _ => ⟨h.adv hb (by rw [k1]; exact kw_ne kw_any), rfl⟩, fun h => absurd rfl h⟩
    · rw [if_neg k1, beq_eq_false_iff_ne.2 k1, if_neg (by decide), if_neg (by decide)]
      obtain ⟨a1, a2, a3⟩ := bnd2 hb h 15
      refine ⟨fun e => ⟨a1 e, ?_⟩, fun e => ?_⟩
      · show ({ c with cl := bndV 2 15 x } : Chg) = { c with cl := uV false (wdAt L j).t 15 }
        rw [a2 e]
      · have := a3 e
        show Bad _ (uE false (wdAt L j).t 15) (faE (uE false (wdAt L j).t 15) (wdAt L j).q)
        rw [@fa (uE false (wdAt L j).t 15) _ e]
        exact this
  · exact pref_at hb h c
  · have ne : ∀ a : Int, [a] ∈ [[68], [72], [76], [73], [65], [85], [67], [80]] → f ≠ [a] := fun a ha e => hn (by rw [e]; exact ha)
    have es : slP f L j c = (c, 1, if ((wdAt L j).t == f) = true then 0 else wrE (wdAt L j).t, if ((wdAt L j).t == f) = true then 0 else (wdAt L j).q) := by
      unfold slP
      delta slQ
      dsimp only
      rw [if_neg (ne 68 (by decide)), if_neg (ne 72 (by decide)), if_neg (ne 76 (by decide)), if_neg (ne 73 (by decide)), if_neg (ne 65 (by decide)), if_neg (ne 85 (by decide)), if_neg (ne 67 (by decide)), if_neg (ne 80 (by decide))]
    have er : fR s f c.dv x = wordP s (strOfNums f) x := by
      unfold fR
      rw [if_neg (ne 68 (by decide)), if_neg (ne 72 (by decide)), if_neg (ne 76 (by decide)), if_neg (ne 73 (by decide)), if_neg (ne 65 (by decide)), if_neg (ne 85 (by decide)), if_neg (ne 67 (by decide)), if_neg (ne 80 (by decide))]
    have ec : fC s f x c = c := by
      unfold fC
      rw [if_neg (ne 68 (by decide)), if_neg (ne 72 (by decide)), if_neg (ne 76 (by decide)), if_neg (ne 73 (by decide)), if_neg (ne 65 (by decide)), if_neg (ne 85 (by decide)), if_neg (ne 67 (by decide)), if_neg (ne 80 (by decide))]
    obtain ⟨a1, a2⟩ := word_at hb h hkw
    rw [strL_of hby] at a1 a2
    rw [es, er, ec]
    by_cases k1 : (wdAt L j).t = f
    · have e2 : ((wdAt L j).t == f) = true := by rw [k1]; exact beq_self_eq_true _
      rw [e2, if_pos rfl, if_pos rfl]
      exact ⟨fun _ => ⟨a1 k1, rfl⟩, fun h => absurd rfl h⟩
    · rw [beq_eq_false_iff_ne.2 k1, if_neg (by decide), if_neg (by decide)]
      exact ⟨fun h => absurd h (wrE_ne _), fun _ => a2 k1⟩
end
def FOk (f : List Int) : Prop := f = [68] ∨ f = [72] ∨ f = [76] ∨ f = [73] ∨ f = [65] ∨ f = [85] ∨ f = [67] ∨ f = [80] ∨ (f ∉ [[68], [72], [76], [73], [65], [85], [67], [80]] ∧ Byt f ∧ kwOk (strOfNums f) = true)
/-- a whole shape -/
theorem run_eq {s : List Int} {L : List Wd} (hb : Byt s) : ∀ (fs : List (List Int)) (x : PSt) (j : Nat) (c : Chg) (r tk : Nat), (∀ f ∈ fs, FOk f) → At s L x j →
    ((mtP L fs j c r tk).2.2.2.1 = 0 → (∃ d, (mtP L fs j c r tk).2.1 = tk + d ∧ At s L (runR s fs x c).1 (j + d)) ∧ (runR s fs x c).2 = (mtP L fs j c r tk).1 ∧ (mtP L fs j c r tk).2.2.1 = r + fs.length) ∧
    ((mtP L fs j c r tk).2.2.2.1 ≠ 0 → Bad (runR s fs x c).1 (mtP L fs j c r tk).2.2.2.1 (mtP L fs j c r tk).2.2.2.2) ∧ r ≤ (mtP L fs j c r tk).2.2.1
  | [], x, j, c, r, tk, _, h => ⟨fun _ => ⟨⟨0, rfl, h⟩, rfl, rfl⟩, fun e => absurd rfl e, Nat.le_refl _⟩
  | f :: fs, x, j, c, r, tk, hf, h => by
    obtain ⟨a1, a2⟩ := fR_at hb h c f (hf f (List.mem_cons_self ..))
    rw [mtP_cons]
    show (_ → (∃ d, _ ∧ At s L (runR s fs (fR s f c.dv x) (fC s f x c)).1 _) ∧ (runR s fs (fR s f c.dv x) (fC s f x c)).2 = _ ∧ _) ∧ (_ → Bad (runR s fs (fR s f c.dv x) (fC s f x c)).1 _ _) ∧ _
    by_cases he : (slP f L j c).2.2.1 = 0
    · rw [if_pos he]
      obtain ⟨b1, b2⟩ := a1 he
      rw [b2]
      obtain ⟨i1, i2, i3⟩ := run_eq hb fs _ _ (slP f L j c).1 (r + 1) (tk + (slP f L j c).2.1) (fun g hg => hf g (List.mem_cons_of_mem _ hg)) b1
      refine ⟨fun e => ?_, i2, by omega⟩
      obtain ⟨⟨d, d1, d2⟩, d3, d4⟩ := i1 e
      exact ⟨⟨(slP f L j c).2.1 + d, by rw [d1]; omega, by rw [← Nat.add_assoc]; exact d2⟩, d3, by rw [d4, List.length_cons]; omega⟩
    · rw [if_neg he]
      have hbad := a2 he
      refine ⟨fun e => absurd e he, fun _ => ?_, Nat.le_refl _⟩
      have hne : (fR s f c.dv x).e ≠ 0 := by rw [hbad.1]; exact he
      rw [runR_off fs _ _ hne]
      exact hbad
end Go.Proofs.Qxb6500778a
