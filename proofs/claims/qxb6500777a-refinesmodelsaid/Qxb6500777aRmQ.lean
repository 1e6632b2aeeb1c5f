import Derived.Test.Qxb6500777aRmP
namespace Go.Proofs.Qxb6500777a

theorem Ren.id : Ren (fun t => t) := ⟨fun _ _ e => e, fun b h0 h1 => ⟨b, h0, h1, rfl⟩, fun _ h0 h1 => ⟨h0, h1⟩⟩
/-- What holds of a model's view. -/
structure MI (V : List Slt) (nx : Int) : Prop where
  ok : EOk V
  so : NumS V
  lt : ∀ s ∈ V, s.tr.num < nx
  ag : ∀ s ∈ V, s.tr.ag ≤ 29
/-- The new entries that are still to come in. -/
structure FI (C : List Ctc) (i : Nat) (F V : List Slt) : Prop where
  mem : ∀ x, x ∈ F ↔ ∃ j c, i ≤ j ∧ C[j]? = some c ∧ x = nwS c 0
  tg : F.Pairwise (fun a b => a.tg ≠ b.tg)
  no : ∀ f ∈ F, ∀ v ∈ V, f.tg ≠ v.tg
theorem nw_ok {c : Ctc} (h : CtcOk c) {n : Int} (hn : 0 ≤ n ∧ n ≤ 1000000000) : SltOk (nwS c n) :=
  ⟨h.tg, ⟨by show (0 : Int) ≤ 1; omega, by show (1 : Int) ≤ c.seen.st + 1; rw [h.st]; omega⟩, ⟨hn, h.ok.x, h.ok.y, h.ok.co, h.ok.sp, h.ok.st, h.ok.ag⟩⟩
theorem MI.filt {V : List Slt} {nx : Int} (h : MI V nx) (p : Slt → Bool) : MI (V.filter p) nx :=
  ⟨⟨fun s hs => h.ok.ok s (List.mem_filter.1 hs).1, fun s hs => h.ok.us s (List.mem_filter.1 hs).1, h.ok.nu.filter _, h.ok.tg.filter _⟩, h.so.filter _, fun s hs => h.lt s (List.mem_filter.1 hs).1, fun s hs => h.ag s (List.mem_filter.1 hs).1⟩
section
variable {C : List Ctc} (hC : CsOk C) (hz : Bare C) (hS : Srt C)
include hC hz in
theorem nw_before {a b : Ctc} (ha : a ∈ C) (hb : b ∈ C) : beforeP a.seen b.seen = true ↔ keyP (nwS a 0) < keyP (nwS b 0) := by
  rw [← ahead_iff (nw_ok (hC.ok a ha) (by omega)) (nw_ok (hC.ok b hb) (by omega))]
  obtain ⟨a1, a2, a3⟩ := hz a ha
  obtain ⟨b1, b2, b3⟩ := hz b hb
  have e : ∀ s t : Trk, beforeP { s with num := 0 } { t with num := 0 } = beforeP s t := fun _ _ => rfl
  unfold aheadP nwS
  dsimp only
  rw [if_neg (by rw [a3, b3]; exact fun z => z rfl), e, e]
  split
  · rfl
  · next hc =>
    rw [if_neg (by rw [a2, b2]; exact fun z => z rfl)]
    constructor
    · intro z; exact absurd (.inl z) hc
    · intro z; simp at z
include hC hz in
theorem nw_seen {a b : Ctc} (ha : a ∈ C) (hb : b ∈ C) (e : keyP (nwS a 0) = keyP (nwS b 0)) : a.seen = b.seen := by
  have h1 : beforeP a.seen b.seen = false := by
    cases h : beforeP a.seen b.seen
    · rfl
    · have := (nw_before hC hz ha hb).1 h; omega
  have h2 : beforeP b.seen a.seen = false := by
    cases h : beforeP b.seen a.seen
    · rfl
    · have := (nw_before hC hz hb ha).1 h; omega
  exact bare_eq hz hb ha h2 h1
variable {i e : Nat} (hi : CutI C i) (he : IsEnd C i e) {F V : List Slt} (hF : FI C i F V) {a : Slt} (ha : a ∈ F) (hm : ∀ b ∈ F, keyP a ≤ keyP b) {c0 : Ctc} (h0 : C[i]? = some c0)
include hC hz hS hF ha hm h0
/-- The least key is that of the first contact. -/
theorem first_key : keyP a = keyP (nwS c0 0) := by
  obtain ⟨j, c, hij, hc, rfl⟩ := (hF.mem a).1 ha
  have h1 := hm _ ((hF.mem (nwS c0 0)).2 ⟨i, c0, Nat.le_refl _, h0, rfl⟩)
  have h2 : ¬ keyP (nwS c 0) < keyP (nwS c0 0) := by
    rw [← nw_before hC hz (List.mem_of_getElem? hc) (List.mem_of_getElem? h0)]
    rcases (by omega : j = i ∨ i < j) with rfl | z
    · rw [h0] at hc; cases hc; rw [before_irr]; decide
    · obtain ⟨l1, e1⟩ := List.getElem?_eq_some_iff.1 h0
      obtain ⟨l2, e2⟩ := List.getElem?_eq_some_iff.1 hc
      have := List.pairwise_iff_getElem.1 hS i j l1 l2 z
      rw [e1, e2] at this
      rw [this]; decide
  omega
include hi he
theorem grp_iff (x : Slt) : x ∈ F.filter (fun s => decide (keyP s = keyP a)) ↔ ∃ j c, i ≤ j ∧ j < e ∧ C[j]? = some c ∧ x = nwS c 0 := by
  rw [List.mem_filter, decide_eq_true_eq, first_key hC hz hS hF ha hm h0]
  constructor
  · rintro ⟨hx, ek⟩
    obtain ⟨j, c, hij, hc, rfl⟩ := (hF.mem x).1 hx
    have es := nw_seen hC hz (List.mem_of_getElem? hc) (List.mem_of_getElem? h0) ek
    obtain ⟨j', h1, h2, h3⟩ := grp_get.1 ((grp_mem hz hS hi he h0 c).2 ⟨List.mem_of_getElem? hc, es⟩)
    exact ⟨j', c, h1, h2, h3, rfl⟩
  · rintro ⟨j, c, h1, h2, hc, rfl⟩
    exact ⟨(hF.mem _).2 ⟨j, c, h1, hc, rfl⟩, nw_key (grp_eq hz hS he h1 h2 h0 hc)⟩
theorem rest_iff (x : Slt) : x ∈ F.filter (fun s => decide (keyP s ≠ keyP a)) ↔ ∃ j c, e ≤ j ∧ C[j]? = some c ∧ x = nwS c 0 := by
  have hg := grp_iff hC hz hS hi he hF ha hm h0
  rw [List.mem_filter, decide_eq_true_eq]
  constructor
  · rintro ⟨hx, ek⟩
    obtain ⟨j, c, hij, hc, rfl⟩ := (hF.mem x).1 hx
    refine ⟨j, c, ?_, hc, rfl⟩
    rcases Nat.lt_or_ge j e with z | z
    · have := (hg (nwS c 0)).2 ⟨j, c, hij, z, hc, rfl⟩
      rw [List.mem_filter, decide_eq_true_eq] at this
      exact absurd this.2 ek
    · exact z
  · rintro ⟨j, c, h1, hc, rfl⟩
    have hlt := he.lt
    have hx := (hF.mem (nwS c 0)).2 ⟨j, c, by omega, hc, rfl⟩
    refine ⟨hx, fun ek => ?_⟩
    obtain ⟨j', c', q1, q2, q3, q4⟩ := (hg (nwS c 0)).1 (List.mem_filter.2 ⟨hx, by rw [decide_eq_true_eq]; exact ek⟩)
    have et : c.tg = c'.tg := congrArg Slt.tg q4
    exact absurd et (hC.dif j j' c c' (by omega) hc q3)
theorem grp_len : (F.filter (fun s => decide (keyP s = keyP a))).length = e - i := by
  have hlt := he.lt
  have hle := he.le
  have n1 : (F.filter (fun s => decide (keyP s = keyP a))).Nodup := (hF.tg.filter _).imp (fun h e => h (congrArg Slt.tg e))
  have n2 : (((C.drop i).take (e - i)).map (fun c => nwS c 0)).Nodup := by
    refine nodup_map ?_
    rw [List.pairwise_iff_getElem]
    intro x y hx hy hxy ez
    rw [List.length_take, List.length_drop] at hx hy
    rw [List.getElem_take, List.getElem_drop, List.getElem_take, List.getElem_drop] at ez
    exact hC.dif (i + x) (i + y) _ _ (by omega) (List.getElem?_eq_getElem (by omega)) (List.getElem?_eq_getElem (by omega)) (congrArg Slt.tg ez)
  have p : (F.filter (fun s => decide (keyP s = keyP a))).Perm (((C.drop i).take (e - i)).map (fun c => nwS c 0)) := by
    rw [List.perm_ext_iff_of_nodup n1 n2]
    intro x
    rw [grp_iff hC hz hS hi he hF ha hm h0, List.mem_map]
    constructor
    · rintro ⟨j, c, h1, h2, hc, rfl⟩
      exact ⟨c, grp_get.2 ⟨j, h1, h2, hc⟩, rfl⟩
    · rintro ⟨c, hc, rfl⟩
      obtain ⟨j, h1, h2, h3⟩ := grp_get.1 hc
      exact ⟨j, c, h1, h2, h3, rfl⟩
  rw [p.length_eq, List.length_map, List.length_take, List.length_drop]
  omega
end
theorem numL_get : ∀ (g : List Slt) (n : Int) (k : Nat), (numL g n)[k]? = (g[k]?).map (fun s => numd s (n + k))
  | [], n, k => by simp [numL]
  | s :: g, n, 0 => by simp [numL]
  | s :: g, n, k + 1 => by
    rw [numL, List.getElem?_cons_succ, List.getElem?_cons_succ, numL_get g (n + 1) k]
    congr 1
    funext s
    rw [show n + 1 + (k : Int) = n + ((k + 1 : Nat) : Int) by omega]
theorem numL_len : ∀ (g : List Slt) (n : Int), (numL g n).length = g.length
  | [], _ => rfl
  | s :: g, n => by rw [numL, List.length_cons, List.length_cons, numL_len g (n + 1)]
theorem numL_mem {g : List Slt} {n : Int} {x : Slt} : x ∈ numL g n ↔ ∃ k s, g[k]? = some s ∧ x = numd s (n + (k : Nat)) := by
  rw [List.mem_iff_getElem?]
  constructor
  · rintro ⟨k, h⟩
    rw [numL_get] at h
    cases hg : g[k]? with
    | none => rw [hg] at h; cases h
    | some s => rw [hg] at h; exact ⟨k, s, hg, (Option.some.inj h).symm⟩
  · rintro ⟨k, s, h1, rfl⟩
    exact ⟨k, by rw [numL_get, h1]; rfl⟩
theorem numL_lt : ∀ (g : List Slt) (n : Int), NumS (numL g n)
  | [], _ => List.Pairwise.nil
  | s :: g, n => by
    unfold NumS
    rw [numL, List.pairwise_cons]
    refine ⟨fun x hx => ?_, numL_lt g (n + 1)⟩
    obtain ⟨k, t, _, rfl⟩ := numL_mem.1 hx
    show n < n + 1 + (k : Int)
    omega
theorem numL_tg {g : List Slt} (n : Int) (h : g.Pairwise (fun a b => a.tg ≠ b.tg)) : (numL g n).Pairwise (fun a b => a.tg ≠ b.tg) := by
  induction h generalizing n with
  | nil => exact List.Pairwise.nil
  | cons h1 _ ih =>
    rw [numL, List.pairwise_cons]
    refine ⟨fun x hx => ?_, ih (n + 1)⟩
    obtain ⟨k, t, ht, rfl⟩ := numL_mem.1 hx
    exact h1 t (List.mem_of_getElem? ht)
theorem MRoom.sub {g : Nat} {V V' : List Slt} (h : MRoom g V V') : ∀ s ∈ V', s ∈ V := by
  induction h with
  | stop V _ => exact fun s hs => hs
  | step V V' a _ _ _ _ ih => exact fun s hs => (List.mem_filter.1 (ih s hs)).1
section
variable {C : List Ctc} {i : Nat}
theorem room_mod {g : Int} {gn : Nat} (hgn : g = gn) (hg : g ≤ 64) {T A : Tbl} (r : Room g T A) : ∀ {V V' : List Slt} {nx : Int}, MRoom gn V V' → AdI C i T → MI V nx → Rel (fun t => t) (Ent T) V → T.next = nx →
    Rel (fun t => t) (Ent A) V' ∧ A.next = nx ∧ AdI C i A ∧ MI V' nx ∧ g ≤ 64 - A.held := by
  induction r with
  | stop T h =>
    intro V V' nx r2 aT aV hR hn
    have hh : T.held = V.length := by rw [← ent_len aT.inv, hR.len (ent_ok aT.inv) aV.ok]
    cases r2 with
    | stop _ h2 => exact ⟨hR, hn, aT, aV, by omega⟩
    | step _ _ a h2 _ _ _ => exact absurd h (by omega)
  | step T T' h _ ih =>
    intro V V' nx r2 aT aV hR hn
    have hh : T.held = V.length := by rw [← ent_len aT.inv, hR.len (ent_ok aT.inv) aV.ok]
    cases r2 with
    | stop _ h2 => exact absurd h (by omega)
    | step _ _ a h2 ha hw r2 =>
      obtain ⟨x, hx, hxu⟩ := used_ex T.sl 64 (by rw [← aT.inv.cnt]; omega)
      obtain ⟨v, hv⟩ := vic_some T 64 x hx hxu
      obtain ⟨v1, v2⟩ := vic_lt T 64 v hv
      have ek : keyP (T.sl v) = keyP a := worst_same hR (ent_ok aT.inv) aV.ok (ent_mem.2 ⟨v, v1, v2, rfl⟩) ha
        (fun s hs => by obtain ⟨k, hk, ku, rfl⟩ := ent_mem.1 hs; exact vic_min T 64 v hv k hk ku) hw
      refine ih r2 (aT.evict hv) (aV.filt _) ?_ (by rw [evict_next, hn])
      exact hR.filt (p := fun s => keyP s ≠ keyP (T.sl v)) (fun s _ t _ e => by rw [e]) (ent_evict aT.inv hv) (fun s => by rw [ek, List.mem_filter, decide_eq_true_eq])
end
section
variable {C : List Ctc} (hC : CsOk C) (hz : Bare C) (hS : Srt C)
include hC hz hS
theorem adm_mod {i : Nat} {T A : Tbl} (r : AdmAll C i T A) : ∀ {F V V' : List Slt} {nx nx' : Int}, MAdm F V nx V' nx' → AdI C i T → CutI C i → FI C i F V → MI V nx → Rel (fun t => t) (Ent T) V → T.next = nx →
    Rel (fun t => t) (Ent A) V' ∧ A.next = nx' ∧ MI V' nx' := by
  induction r with
  | done i T h =>
    intro F V V' nx nx' r2 aT hi hF aV hR hn
    have hno : ∀ x, ¬ x ∈ F := fun x hx => by
      obtain ⟨j, c, h1, h2, _⟩ := (hF.mem x).1 hx
      have := (List.getElem?_eq_some_iff.1 h2).1
      omega
    cases r2 with
    | done _ _ => exact ⟨hR, hn, aV⟩
    | big _ _ _ _ _ a ha => exact absurd ha (hno a)
    | grp _ _ _ _ _ _ a ha => exact absurd ha (hno a)
  | big i e T T' h he hb _ ih =>
    intro F V V' nx nx' r2 aT hi hF aV hR hn
    obtain ⟨c0, h0⟩ : ∃ c, C[i]? = some c := ⟨_, List.getElem?_eq_getElem h⟩
    cases r2 with
    | done _ _ => exact absurd ((hF.mem (nwS c0 0)).2 ⟨i, c0, Nat.le_refl _, h0, rfl⟩) (by intro z; cases z)
    | big _ _ _ _ _ a ha hm hl r3 =>
      exact ih r3 (aT.skip (by have := he.lt; omega)) (grp_cut hz hS hi he) ⟨rest_iff hC hz hS hi he hF ha hm h0, hF.tg.filter _, fun f hf v hv => hF.no f (List.mem_filter.1 hf).1 v hv⟩ aV hR hn
    | grp _ _ _ _ _ _ a ha hm hl =>
      rw [grp_len hC hz hS hi he hF ha hm h0] at hl
      omega
  | grp i e T T1 T' h he hb hrm _ ih =>
    intro F V V' nx nx' r2 aT hi hF aV hR hn
    have hlt := he.lt
    have hle := he.le
    obtain ⟨c0, h0⟩ : ∃ c, C[i]? = some c := ⟨_, List.getElem?_eq_getElem h⟩
    cases r2 with
    | done _ _ => exact absurd ((hF.mem (nwS c0 0)).2 ⟨i, c0, Nat.le_refl _, h0, rfl⟩) (by intro z; cases z)
    | big _ _ _ _ _ a ha hm hl r3 =>
      rw [grp_len hC hz hS hi he hF ha hm h0] at hl
      omega
    | grp _ _ V1 _ _ _ a ha hm hl hrm' r3 =>
      have hgi := grp_iff hC hz hS hi he hF ha hm h0
      have hri := rest_iff hC hz hS hi he hF ha hm h0
      have hgl := grp_len hC hz hS hi he hF ha hm h0
      have hgt : (F.filter (fun s => decide (keyP s = keyP a))).Pairwise (fun a b => a.tg ≠ b.tg) := hF.tg.filter _
      have hgF : ∀ s ∈ F.filter (fun s => decide (keyP s = keyP a)), s ∈ F ∧ keyP s = keyP a := fun s hs => by
        rw [List.mem_filter, decide_eq_true_eq] at hs; exact hs
      obtain ⟨G, hG⟩ : ∃ G, F.filter (fun s => decide (keyP s = keyP a)) = G := ⟨_, rfl⟩
      rw [hG] at hgi hgl hgt hgF hrm' r3
      obtain ⟨p1, p2, p3, p4, p5⟩ := room_mod (C := C) (i := i) (by rw [hgl]) (by omega) hrm hrm' aT aV hR hn
      obtain ⟨q1, q2, q3⟩ := ent_admL hC p3 (m := e - i) (by omega) (by omega)
      rw [show i + (e - i) = e by omega] at q2 q3
      have hk0 := first_key hC hz hS hF ha hm h0
      have hnx := p3.nx
      have hn1 := p3.inv.nx
      have hGc : ∀ s ∈ G, ∃ j c, i ≤ j ∧ j < e ∧ C[j]? = some c ∧ s = nwS c 0 := fun s hs => (hgi s).1 hs
      have hmi : MI (V1 ++ numL G nx) (nx + G.length) := by
        refine ⟨⟨fun s hs => ?_, fun s hs => ?_, ?_, ?_⟩, ?_, fun s hs => ?_, fun s hs => ?_⟩
        · rcases List.mem_append.1 hs with z | z
          · exact p4.ok.ok s z
          · obtain ⟨k, t, ht, rfl⟩ := numL_mem.1 z
            obtain ⟨j, c, _, _, hc, rfl⟩ := hGc t (List.mem_of_getElem? ht)
            have hkl := (List.getElem?_eq_some_iff.1 ht).1
            exact nw_ok (hC.ok c (List.mem_of_getElem? hc)) ⟨by omega, by omega⟩
        · rcases List.mem_append.1 hs with z | z
          · exact p4.ok.us s z
          · obtain ⟨k, t, ht, rfl⟩ := numL_mem.1 z
            obtain ⟨j, c, _, _, hc, rfl⟩ := hGc t (List.mem_of_getElem? ht)
            rfl
        · rw [List.pairwise_append]
          refine ⟨p4.ok.nu, (numL_lt G nx).imp (fun h e => by omega), fun x hx y hy e => ?_⟩
          obtain ⟨k, t, ht, rfl⟩ := numL_mem.1 hy
          have := p4.lt x hx
          have e2 : x.tr.num = nx + (k : Int) := e
          omega
        · rw [List.pairwise_append]
          refine ⟨p4.ok.tg, numL_tg nx hgt, fun x hx y hy e => ?_⟩
          obtain ⟨k, t, ht, rfl⟩ := numL_mem.1 hy
          exact hF.no t (hgF t (List.mem_of_getElem? ht)).1 x (hrm'.sub x hx) e.symm
        · unfold NumS
          rw [List.pairwise_append]
          refine ⟨p4.so, numL_lt G nx, fun x hx y hy => ?_⟩
          obtain ⟨k, t, ht, rfl⟩ := numL_mem.1 hy
          have := p4.lt x hx
          show x.tr.num < nx + (k : Int)
          omega
        · rcases List.mem_append.1 hs with z | z
          · have := p4.lt s z; omega
          · obtain ⟨k, t, ht, rfl⟩ := numL_mem.1 z
            have hkl := (List.getElem?_eq_some_iff.1 ht).1
            show nx + (k : Int) < _
            omega
        · rcases List.mem_append.1 hs with z | z
          · exact p4.ag s z
          · obtain ⟨k, t, ht, rfl⟩ := numL_mem.1 z
            obtain ⟨j, c, _, _, hc, rfl⟩ := hGc t (List.mem_of_getElem? ht)
            show c.seen.ag ≤ 29
            rw [(hz c (List.mem_of_getElem? hc)).2.2]
            omega
      refine ih r3 q3 (grp_cut hz hS hi he) ⟨hri, hF.tg.filter _, fun f hf v hv => ?_⟩ hmi ?_ (by rw [q1, hgl, p2])
      · have hfF := (List.mem_filter.1 hf).1
        rcases List.mem_append.1 hv with z | z
        · exact hF.no f hfF v (hrm'.sub v z)
        · obtain ⟨k, t, ht, rfl⟩ := numL_mem.1 z
          intro et
          have := pairwise_inj hF.tg f hfF t (hgF t (List.mem_of_getElem? ht)).1 et
          subst this
          rw [List.mem_filter, decide_eq_true_eq] at hf
          exact hf.2 (hgF f (List.mem_of_getElem? ht)).2
      · constructor
        · intro n k
          constructor
          · rintro ⟨s, hs, e1, e2⟩
            rcases (q2 s).1 hs with z | ⟨j, c, h1, h2, h3, rfl⟩
            · obtain ⟨t, ht, f1, f2⟩ := (p1.n n k).1 ⟨s, z, e1, e2⟩
              exact ⟨t, List.mem_append_left _ ht, f1, f2⟩
            · obtain ⟨t, ht⟩ : ∃ t, G[j - i]? = some t := ⟨_, List.getElem?_eq_getElem (by omega)⟩
              refine ⟨_, List.mem_append_right _ (numL_mem.2 ⟨j - i, t, ht, rfl⟩), ?_, ?_⟩
              · rw [← e1, p2]; rfl
              · rw [key_numd, (hgF t (List.mem_of_getElem? ht)).2, hk0, ← e2]
                exact nw_key (grp_eq hz hS he h1 h2 h0 h3).symm
          · rintro ⟨s, hs, e1, e2⟩
            rcases List.mem_append.1 hs with z | z
            · obtain ⟨t, ht, f1, f2⟩ := (p1.n n k).2 ⟨s, z, e1, e2⟩
              exact ⟨t, (q2 t).2 (.inl ht), f1, f2⟩
            · obtain ⟨x, t, ht, rfl⟩ := numL_mem.1 z
              have hxl := (List.getElem?_eq_some_iff.1 ht).1
              obtain ⟨c, hc⟩ : ∃ c, C[i + x]? = some c := ⟨_, List.getElem?_eq_getElem (by omega)⟩
              refine ⟨_, (q2 _).2 (.inr ⟨i + x, c, by omega, by omega, hc, rfl⟩), ?_, ?_⟩
              · show T1.next + ((i + x - i : Nat) : Int) = n
                rw [← e1, p2]
                show nx + ((i + x - i : Nat) : Int) = nx + (x : Int)
                omega
              · rw [← e2, key_numd, (hgF t (List.mem_of_getElem? ht)).2, hk0]
                exact nw_key (grp_eq hz hS he (by omega) (by omega) h0 hc)
        · intro t k t0 t1
          constructor
          · rintro ⟨s, hs, e1, e2⟩
            rcases (q2 s).1 hs with z | ⟨j, c, h1, h2, h3, rfl⟩
            · obtain ⟨t, ht, f1, f2⟩ := (p1.g t k t0 t1).1 ⟨s, z, e1, e2⟩
              exact ⟨t, List.mem_append_left _ ht, f1, f2⟩
            · obtain ⟨x, hx⟩ := List.mem_iff_getElem?.1 ((hgi (nwS c 0)).2 ⟨j, c, h1, h2, h3, rfl⟩)
              exact ⟨_, List.mem_append_right _ (numL_mem.2 ⟨x, _, hx, rfl⟩), e1, by rw [← e2, key_numd]; exact nw_key rfl⟩
          · rintro ⟨s, hs, e1, e2⟩
            rcases List.mem_append.1 hs with z | z
            · obtain ⟨t, ht, f1, f2⟩ := (p1.g t k t0 t1).2 ⟨s, z, e1, e2⟩
              exact ⟨t, (q2 t).2 (.inl ht), f1, f2⟩
            · obtain ⟨x, y, hy, rfl⟩ := numL_mem.1 z
              obtain ⟨j, c, h1, h2, hc, rfl⟩ := hGc y (List.mem_of_getElem? hy)
              exact ⟨_, (q2 _).2 (.inr ⟨j, c, h1, h2, hc, rfl⟩), e1, by rw [← e2, key_numd]; exact nw_key rfl⟩
end
theorem frM_mem {best : Nat → Int} {W : Nat → Tgt} {V : List Slt} : ∀ n x, x ∈ frM best W V n ↔ ∃ t, t < n ∧ 0 < best t ∧ (∀ s ∈ V, s.tg ≠ (t : Int)) ∧ x = nwS (newC best W t) 0
  | 0, x => by simp [frM]
  | n + 1, x => by
    rw [frM]
    split
    · next hc =>
      rw [List.mem_append, frM_mem n x, List.mem_singleton]
      constructor
      · rintro (⟨t, h1, h2⟩ | h)
        · exact ⟨t, by omega, h2⟩
        · exact ⟨n, by omega, hc.1, hc.2, h⟩
      · rintro ⟨t, h1, h2, h3, h4⟩
        rcases (by omega : t = n ∨ t < n) with rfl | z
        · exact .inr h4
        · exact .inl ⟨t, z, h2, h3, h4⟩
    · next hc =>
      rw [frM_mem n x]
      constructor
      · rintro ⟨t, h1, h2⟩; exact ⟨t, by omega, h2⟩
      · rintro ⟨t, h1, h2, h3, h4⟩
        rcases (by omega : t = n ∨ t < n) with rfl | z
        · exact absurd ⟨h2, h3⟩ hc
        · exact ⟨t, z, h2, h3, h4⟩
theorem frM_tg {best : Nat → Int} {W : Nat → Tgt} {V : List Slt} : ∀ n, (frM best W V n).Pairwise (fun a b => a.tg ≠ b.tg)
  | 0 => List.Pairwise.nil
  | n + 1 => by
    rw [frM]
    split
    · rw [List.pairwise_append]
      refine ⟨frM_tg n, List.pairwise_singleton _ _, fun x hx y hy e => ?_⟩
      obtain ⟨t, h1, _, _, rfl⟩ := (frM_mem n x).1 hx
      rw [List.mem_singleton] at hy
      subst hy
      have : (t : Int) = (n : Int) := e
      omega
    · exact frM_tg n
theorem frM_len {best : Nat → Int} {W : Nat → Tgt} {V : List Slt} : ∀ n, (frM best W V n).length ≤ n
  | 0 => Nat.le_refl _
  | n + 1 => by
    have := frM_len (best := best) (W := W) (V := V) n
    rw [frM]
    split
    · rw [List.length_append]; simp; omega
    · omega
theorem nodup_of_sub {α : Type} [DecidableEq α] : ∀ {A B : List α}, A.Nodup → (∀ a, a ∈ A → a ∈ B) → B.length ≤ A.length → B.Nodup
  | A, [], _, _, _ => List.Pairwise.nil
  | A, b :: B, hA, hs, hl => by
    have hlen : (A.erase b).length ≤ A.length := List.length_erase_le
    by_cases hb : b ∈ A
    · have hl2 : (A.erase b).length = A.length - 1 := List.length_erase_of_mem hb
      have hne : A ≠ [] := List.ne_nil_of_mem hb
      have hpos : 0 < A.length := List.length_pos_iff.2 hne
      have hsub : ∀ a, a ∈ A.erase b → a ∈ B := fun a ha => by
        have hne2 := (List.Nodup.mem_erase_iff hA).1 ha
        rcases List.mem_cons.1 (hs a hne2.2) with z | z
        · exact absurd z hne2.1
        · exact z
      have ih := nodup_of_sub (hA.erase b) hsub (by rw [List.length_cons] at hl; omega)
      refine List.nodup_cons.2 ⟨fun hbB => ?_, ih⟩
      -- then all of A lies in B, which is shorter
      have hsub2 : ∀ a, a ∈ A → a ∈ B := fun a ha => by
        rcases List.mem_cons.1 (hs a ha) with z | z
        · rw [z]; exact hbB
        · exact z
      have := List.Nodup.length_le_of_subset hA hsub2
      rw [List.length_cons] at hl
      omega
    · have hsub2 : ∀ a, a ∈ A → a ∈ B := fun a ha => by
        rcases List.mem_cons.1 (hs a ha) with z | z
        · rw [z] at ha; exact absurd ha hb
        · exact z
      have := List.Nodup.length_le_of_subset hA hsub2
      rw [List.length_cons] at hl
      omega
/-- RefinesModel, of a team's tick. -/
theorem mtick_rel {best : Nat → Int} {W : Nat → Tgt} {X Y : Nat → Int} {T A : Tbl} {E E' : List Slt} {nx nx' : Int} (hT : TkI T) (hE : MI E nx) (h : Rel (fun t => t) (Ent T) E) (hn : T.next = nx) (hx : T.next + 112 ≤ 1000000000)
    (hb : ∀ t, 0 ≤ best t ∧ best t ≤ 3) (hW : ∀ t, t < 112 → TgtOk (W t)) (hA : TickR best W X Y T A) (hM : MTick best W X Y E nx E' nx') : Rel (fun t => t) (Ent A) E' ∧ A.next = nx' ∧ MI E' nx' := by
  obtain ⟨T2, sT, aT⟩ := hA
  have iT2 := mid_inv hT hW sT
  have iT3 := drR_inv iT2 64 (Nat.le_refl _)
  have nT : (drR T2 64).next = T.next := by rw [drR_next, settles_next sT, (ph1_rest 64).2.2]
  have ho : ∀ s, (obsS best W X Y s).tr.num = s.tr.num := fun s => (obs_same best W X Y s).2.2
  have hset := setM_set (obs := obsS best W X Y) ho hE.so
  have okS : EOk (setM (obsS best W X Y) E) := by
    refine ⟨fun s hs => ?_, fun s hs => ?_, (setM_numS ho hE.so).imp (fun h e => by omega), ?_⟩
    · obtain ⟨a, ha, b, hb', _, rfl⟩ := hset.of s hs
      exact numd_ok (obs_ok (hE.ok.ok b hb') hW (fun _ => hE.ag b hb')) (hE.ok.ok a ha).tr.num
    · obtain ⟨a, ha, b, hb', _, rfl⟩ := hset.of s hs
      exact (obs_same best W X Y b).1.trans (hE.ok.us b hb')
    · -- the targets differ: every target of E occurs, and there are no more entries
      have p : (E.map Slt.tg).Nodup := nodup_map hE.ok.tg
      have hsub : ∀ t, t ∈ E.map Slt.tg → t ∈ (setM (obsS best W X Y) E).map Slt.tg := fun t ht => by
        obtain ⟨b, hb', rfl⟩ := List.mem_map.1 ht
        obtain ⟨s, hs, a, _, _, rfl⟩ := hset.tg b hb'
        exact List.mem_map.2 ⟨_, hs, (obs_same best W X Y b).2.1⟩
      have hlen : ((setM (obsS best W X Y) E).map Slt.tg).length = (E.map Slt.tg).length := by rw [List.length_map, List.length_map]; unfold setM; rw [List.length_map, List.length_range]
      have hnd := nodup_of_sub p hsub (Nat.le_of_eq hlen)
      unfold List.Nodup at hnd
      rw [List.pairwise_map] at hnd
      exact hnd
  have hR2 : Rel (fun t => t) (Ent T2) (setM (obsS best W X Y) E) := SetL.rel Ren.id h (ent_ok hT.inv) hE.ok (ent_ok iT2) okS (tick_set hT hW sT) hset (fun s _ => (obs_same best W X Y s).2.1) (fun s _ => (obs_same best W X Y s).2.1)
    (fun a ha b hb' et ek => obs_key ((ent_ok hT.inv).ok a ha) (hE.ok.ok b hb') ((ent_ok hT.inv).us a ha) (hE.ok.us b hb') ek (by rw [et]) (fun _ => by rw [et]))
  have hR3 : Rel (fun t => t) (Ent (drR T2 64)) (dropM (setM (obsS best W X Y) E)) := hR2.filt (p := fun s => s.tr.ag < 30) (fun s hs t ht e => by rw [(key_ext ((ent_ok iT2).ok s hs) (okS.ok t ht) e).2.2.2.2.2.2]) ent_drop (fun s => by unfold dropM; rw [List.mem_filter, decide_eq_true_eq])
  have hMI : MI (dropM (setM (obsS best W X Y) E)) nx := by
    have hm : ∀ s, s ∈ dropM (setM (obsS best W X Y) E) → s ∈ setM (obsS best W X Y) E ∧ s.tr.ag < 30 := fun s hs => by unfold dropM at hs; rw [List.mem_filter, decide_eq_true_eq] at hs; exact hs
    refine ⟨⟨fun s hs => okS.ok s (hm s hs).1, fun s hs => okS.us s (hm s hs).1, okS.nu.filter _, okS.tg.filter _⟩, (setM_numS ho hE.so).filter _, fun s hs => ?_, fun s hs => by have := (hm s hs).2; omega⟩
    obtain ⟨a, ha, b, _, _, rfl⟩ := hset.of s (hm s hs).1
    exact hE.lt a ha
  have hFI : FI (frL best W (drR T2 64) 112) 0 (frM best W (dropM (setM (obsS best W X Y) E)) 112) (dropM (setM (obsS best W X Y) E)) := by
    have hwh : ∀ t : Nat, t < 112 → ((drR T2 64).wh t = -1 ↔ ∀ s ∈ dropM (setM (obsS best W X Y) E), s.tg ≠ (t : Int)) := fun t ht => by
      rw [wh_ent iT3 ht]
      constructor
      · intro z s hs e
        exact z (keyP s) ((hR3.g t (keyP s) (by omega) (by omega)).2 ⟨s, hs, e, rfl⟩)
      · rintro z k hk
        obtain ⟨s, hs, e, _⟩ := (hR3.g t k (by omega) (by omega)).1 hk
        exact z s hs e
    refine ⟨fun x => ?_, frM_tg 112, fun f hf v hv e => ?_⟩
    · rw [frM_mem]
      constructor
      · rintro ⟨t, h1, h2, h3, rfl⟩
        obtain ⟨j, hj⟩ := List.mem_iff_getElem?.1 (fr_mem2 (best := best) (W := W) (T := drR T2 64) 112 t h1 (by omega) ((hwh t h1).2 h3))
        exact ⟨j, _, Nat.zero_le _, hj, rfl⟩
      · rintro ⟨j, c, _, hc, rfl⟩
        obtain ⟨t, h1, rfl, h2, h3⟩ := fr_mem 112 c (List.mem_of_getElem? hc)
        exact ⟨t, h1, by have := (hb t).1; omega, (hwh t h1).1 h3, rfl⟩
    · obtain ⟨t, h1, h2, h3, rfl⟩ := (frM_mem 112 f).1 hf
      exact h3 v hv e.symm
  exact adm_mod (fr_ok hb hW) fr_bare (fr_sorted 112) aT hM (fr_adI iT3 (by rw [nT]; exact hx)) (fun j k d c hj => by omega) hFI hMI hR3 (by rw [nT, hn])
/-- The two tables are one. -/
theorem tab_mod {T : Tbl} {E : List Slt} {nx : Int} (hT : TInv T) (hE : MI E nx) (h : Rel (fun t => t) (Ent T) E) : tabN T 64 = E.map Slt.tr := by
  refine sorted_eq (tab_sorted hT 64 (Nat.le_refl _)) (by rw [List.pairwise_map]; exact hE.so) fun t => ?_
  rw [tab_mem, List.mem_map]
  constructor
  · rintro ⟨k, hk, hu, rfl⟩
    obtain ⟨s, hs, e1, e2⟩ := (h.n _ _).1 ⟨T.sl k, ent_mem.2 ⟨k, hk, hu, rfl⟩, rfl, rfl⟩
    exact ⟨s, hs, key_trk (hE.ok.ok s hs) (hT.ok k hk) e2 e1⟩
  · rintro ⟨s, hs, rfl⟩
    obtain ⟨t, ht, e1, e2⟩ := (h.n _ _).2 ⟨s, hs, rfl, rfl⟩
    obtain ⟨j, hj, uj, rfl⟩ := ent_mem.1 ht
    exact ⟨j, hj, uj, key_trk (hT.ok j hj) (hE.ok.ok s hs) e2 e1⟩
end Go.Proofs.Qxb6500777a
