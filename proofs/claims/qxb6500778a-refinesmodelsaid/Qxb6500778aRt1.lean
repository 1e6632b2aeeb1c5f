import Derived.Test.Qxb6500778aRt0
import Derived.Test.Qxb6500778aS3
namespace Go.Proofs.Qxb6500778a
open Go.RowKit

theorem kw_add : kwOk s_add = true := by decide +kernel
theorem kw_del : kwOk s_del = true := by decide +kernel
theorem kw_via : kwOk s_via = true := by decide +kernel
theorem kw_insert : kwOk s_insert = true := by decide +kernel
theorem kw_remove : kwOk s_remove = true := by decide +kernel
theorem kw_at : kwOk s_at = true := by decide +kernel
theorem kw_permit : kwOk s_permit = true := by decide +kernel
theorem kw_deny : kwOk s_deny = true := by decide +kernel
theorem kw_class : kwOk s_class = true := by decide +kernel
theorem kw_any : kwOk s_any = true := by decide +kernel
theorem kw_up : kwOk s_up = true := by decide +kernel
theorem kw_down : kwOk s_down = true := by decide +kernel
theorem kw_route : kwOk s_route = true := by decide +kernel
theorem kw_acl : kwOk s_acl = true := by decide +kernel
theorem kw_link : kwOk s_link = true := by decide +kernel
theorem kw_iface : kwOk s_iface = true := by decide +kernel
theorem kw_batch : kwOk s_batch = true := by decide +kernel
theorem ne_del_add : (s_del.toList == s_add.toList) = false := by decide +kernel
theorem ne_remove_insert : (s_remove.toList == s_insert.toList) = false := by decide +kernel
theorem ne_deny_permit : (s_deny.toList == s_permit.toList) = false := by decide +kernel
theorem ne_down_up : (s_down.toList == s_up.toList) = false := by decide +kernel
theorem ne_acl_route : (s_acl.toList == s_route.toList) = false := by decide +kernel
theorem ne_link_route : (s_link.toList == s_route.toList) = false := by decide +kernel
theorem ne_link_acl : (s_link.toList == s_acl.toList) = false := by decide +kernel
theorem ne_iface_route : (s_iface.toList == s_route.toList) = false := by decide +kernel
theorem ne_iface_acl : (s_iface.toList == s_acl.toList) = false := by decide +kernel
theorem ne_iface_link : (s_iface.toList == s_link.toList) = false := by decide +kernel
/-- A change's pieces. -/
def hdK (c : Chg) : TK := if c.kd = 0 then .W s_route else if c.kd = 1 then .W s_route else if c.kd = 2 then .W s_acl else if c.kd = 3 then .W s_acl else if c.kd = 4 then .W s_link else .W s_iface
def tlK (c : Chg) : List (List Int × TK) :=
  if c.kd = 0 then [([32], .W s_add), ([32], .Dv c.dv.toNat), ([32], .Nm c.pr.toNat), ([], .Sl), ([], .Nm c.ln.toNat), ([32], .W s_via), ([32], .Dv c.hp.toNat)] else
  if c.kd = 1 then [([32], .W s_del), ([32], .Dv c.dv.toNat), ([32], .Nm c.pr.toNat), ([], .Sl), ([], .Nm c.ln.toNat)] else
  if c.kd = 2 then [([32], .W s_insert), ([32], .Dv c.dv.toNat), ([32], .W s_at), ([32], .Nm c.ix.toNat), ([32], .W (if c.pm = true then s_permit else s_deny)), ([32], .Nm c.pr.toNat), ([], .Sl), ([], .Nm c.ln.toNat), ([32], .W s_class), ([32], if c.cl = 16 then .W s_any else .Nm c.cl.toNat)] else
  if c.kd = 3 then [([32], .W s_remove), ([32], .Dv c.dv.toNat), ([32], .W s_at), ([32], .Nm c.ix.toNat)] else
  if c.kd = 4 then [([32], .Dv c.dv.toNat), ([32], .Dv c.hp.toNat), ([32], .W (if c.up = true then s_up else s_down))] else
  [([32], .Dv c.dv.toNat), ([32], .W (if c.up = true then s_up else s_down))]
theorem hd_ok (c : Chg) : (hdK c).ok ∧ (hdK c).mk = false ∧ ∀ t : Tok, (hdK c).is t → t.k = 1 := by
  unfold hdK
  split
  · exact ⟨kw_route, rfl, fun t h => h.1⟩
  · split
    · exact ⟨kw_route, rfl, fun t h => h.1⟩
    · split
      · exact ⟨kw_acl, rfl, fun t h => h.1⟩
      · split
        · exact ⟨kw_acl, rfl, fun t h => h.1⟩
        · split
          · exact ⟨kw_link, rfl, fun t h => h.1⟩
          · exact ⟨kw_iface, rfl, fun t h => h.1⟩
def pcs (c : Chg) : List (List Int × TK) := ([10, 32, 32], hdK c) :: tlK c
theorem nwb_r {b : List Int} {t : TK} {ps : List (List Int × TK)} (hb : blk b = true) (h0 : b ≠ []) : nwb (render ((b, t) :: ps)) = true := by
  cases b with
  | nil => exact absurd rfl h0
  | cons c b =>
    rw [render_cons, List.cons_append]
    simp only [blk, List.all_cons, Bool.and_eq_true, Bool.not_eq_true', beq_eq_false_iff_ne] at hb
    unfold nwb
    have h1 := hb.1.1
    simp only [spP, Bool.or_eq_true, beq_iff_eq] at h1
    simp only [wbP, dgP, Bool.not_eq_true', Bool.or_eq_false_iff, decide_eq_false_iff_not]
    omega
theorem back_add (s : List Int) (x : PSt) (b : List Int) (t : TK) (ps : List (List Int × TK)) (hb : blk b = true) (h0 : b ≠ []) (ht : t.ok) (hn : t.mk = false → nwb (render ps) = true) (hE : t = .End → ps = []) (d h p l : Nat) (hd : d ≤ 15) (hh : h ≤ 15) (hp : p ≤ 255) (hl : l ≤ 8) (ha : algB (p : Int) (l : Int) = true)
    (H : PA s x (.W s_route) (([32], .W s_add) :: ([32], .Dv d) :: ([32], .Nm p) :: ([], .Sl) :: ([], .Nm l) :: ([32], .W s_via) :: ([32], .Dv h) :: (b, t) :: ps)) :
    PA s (changeX s x).1 t ps ∧ (changeX s x).2 = ⟨0, d, h, p, l, 0, 0, false, false⟩ := by
  have hr : isW x s_route = true := by rw [H.isW]; exact beq_self_eq_true _
  have p0 := H.adv rfl kw_add (fun _ => rfl) (fun e => by cases e)
  have h1 := p0.eit1 (z := s_del)
  have p1 := p0.adv rfl (show d ≤ 1000000 by omega) (fun _ => rfl) (fun e => by cases e)
  have h2 := p1.dev (m := 15) (by omega)
  have p2 := p1.adv rfl (show p ≤ 1000000 by omega) (fun _ => rfl) (fun e => by cases e)
  have h3 := fun c => p2.pref (c := c) hp hl ha rfl rfl kw_via (fun _ => rfl) (fun e => by cases e)
  have h4 := (h3 .zero).1.word
  have p4 := (h3 .zero).1.adv rfl (show h ≤ 1000000 by omega) (fun _ => nwb_r hb h0) (fun e => by cases e)
  have h5 := p4.dev (m := 15) (by omega)
  have p5 := p4.adv hb ht hn hE
  unfold changeX
  rw [if_pos hr]
  unfold routeX
  simp only [h1.1, h1.2, h2.1, h2.2, (h3 _).2, h4, h5.1, h5.2, if_true]
  exact ⟨p5, rfl⟩
theorem back_del (s : List Int) (x : PSt) (b : List Int) (t : TK) (ps : List (List Int × TK)) (hb : blk b = true) (h0 : b ≠ []) (ht : t.ok) (hn : t.mk = false → nwb (render ps) = true) (hE : t = .End → ps = []) (d p l : Nat) (hd : d ≤ 15) (hp : p ≤ 255) (hl : l ≤ 8) (ha : algB (p : Int) (l : Int) = true)
    (H : PA s x (.W s_route) (([32], .W s_del) :: ([32], .Dv d) :: ([32], .Nm p) :: ([], .Sl) :: ([], .Nm l) :: (b, t) :: ps)) :
    PA s (changeX s x).1 t ps ∧ (changeX s x).2 = ⟨1, d, 0, p, l, 0, 0, false, false⟩ := by
  have hr : isW x s_route = true := by rw [H.isW]; exact beq_self_eq_true _
  have p0 := H.adv rfl kw_del (fun _ => rfl) (fun e => by cases e)
  have h1 := p0.eit2 (y := s_add) ne_del_add
  have p1 := p0.adv rfl (show d ≤ 1000000 by omega) (fun _ => rfl) (fun e => by cases e)
  have h2 := p1.dev (m := 15) (by omega)
  have p2 := p1.adv rfl (show p ≤ 1000000 by omega) (fun _ => rfl) (fun e => by cases e)
  have h3 := fun c => p2.pref (c := c) hp hl ha (nwb_r hb h0) hb ht hn hE
  unfold changeX
  rw [if_pos hr]
  unfold routeX
  simp only [h1.1, h1.2, h2.1, h2.2, (h3 _).2]
  rw [if_neg (by decide)]
  exact ⟨(h3 .zero).1, rfl⟩
theorem back_insP (s : List Int) (x : PSt) (b : List Int) (t : TK) (ps : List (List Int × TK)) (hb : blk b = true) (h0 : b ≠ []) (ht : t.ok) (hn : t.mk = false → nwb (render ps) = true) (hE : t = .End → ps = []) (d i p l : Nat) (hd : d ≤ 15) (hi : i ≤ 63) (hp : p ≤ 255) (hl : l ≤ 8) (ha : algB (p : Int) (l : Int) = true) (e : Nat) (he : e ≤ 15) 
    (H : PA s x (.W s_acl) (([32], .W s_insert) :: ([32], .Dv d) :: ([32], .W s_at) :: ([32], .Nm i) :: ([32], .W s_permit) :: ([32], .Nm p) :: ([], .Sl) :: ([], .Nm l) :: ([32], .W s_class) :: ([32], .Nm e) :: (b, t) :: ps)) :
    PA s (changeX s x).1 t ps ∧ (changeX s x).2 = ⟨2, d, 0, p, l, i, e, true, false⟩ := by
  have hr : isW x s_route = false := by rw [H.isW]; exact ne_acl_route
  have hr2 : isW x s_acl = true := by rw [H.isW]; exact beq_self_eq_true _
  have p0 := H.adv rfl kw_insert (fun _ => rfl) (fun e => by cases e)
  have h1 := p0.eit1 (z := s_remove)
  have p1 := p0.adv rfl (show d ≤ 1000000 by omega) (fun _ => rfl) (fun e => by cases e)
  have h2 := p1.dev (m := 15) (by omega)
  have p2 := p1.adv rfl kw_at (fun _ => rfl) (fun e => by cases e)
  have h3 := p2.word
  have p3 := p2.adv rfl (show i ≤ 1000000 by omega) (fun _ => rfl) (fun e => by cases e)
  have h4 := p3.num (m := 63) (by omega)
  have p4 := p3.adv rfl kw_permit (fun _ => rfl) (fun e => by cases e)
  have h5 := p4.eit1 (z := s_deny)
  have p5 := p4.adv rfl (show p ≤ 1000000 by omega) (fun _ => rfl) (fun e => by cases e)
  have h6 := fun c => p5.pref (c := c) hp hl ha rfl rfl kw_class (fun _ => rfl) (fun e => by cases e)
  have h6w := (h6 .zero).1.word
  have p8 := (h6 .zero).1.adv rfl (show e ≤ 1000000 by omega) (fun _ => nwb_r hb h0) (fun e => by cases e)
  unfold changeX
  rw [if_neg (by rw [hr]; decide), if_pos hr2]
  unfold aclX
  simp only [h1.1, h1.2, h2.1, h2.2, h3, h4.1, h4.2, h5.1, h5.2, (h6 _).2, h6w, if_true]
  generalize advP s (prefX s (advP s (advP s (advP s (advP s (advP s (advP s x))))))) = x7 at *
  have h7 : isW x7 s_any = false := by unfold isW; rw [p8.tok.1]; rfl
  have h8 := p8.num (m := 15) (by omega)
  have p9 := p8.adv hb ht hn hE
  rw [if_neg (by rw [h7]; rintro ⟨_, e⟩; cases e)]
  simp only [h8.1, h8.2]
  exact ⟨p9, rfl⟩
theorem back_insD (s : List Int) (x : PSt) (b : List Int) (t : TK) (ps : List (List Int × TK)) (hb : blk b = true) (h0 : b ≠ []) (ht : t.ok) (hn : t.mk = false → nwb (render ps) = true) (hE : t = .End → ps = []) (d i p l : Nat) (hd : d ≤ 15) (hi : i ≤ 63) (hp : p ≤ 255) (hl : l ≤ 8) (ha : algB (p : Int) (l : Int) = true) (e : Nat) (he : e ≤ 15) 
    (H : PA s x (.W s_acl) (([32], .W s_insert) :: ([32], .Dv d) :: ([32], .W s_at) :: ([32], .Nm i) :: ([32], .W s_deny) :: ([32], .Nm p) :: ([], .Sl) :: ([], .Nm l) :: ([32], .W s_class) :: ([32], .Nm e) :: (b, t) :: ps)) :
    PA s (changeX s x).1 t ps ∧ (changeX s x).2 = ⟨2, d, 0, p, l, i, e, false, false⟩ := by
  have hr : isW x s_route = false := by rw [H.isW]; exact ne_acl_route
  have hr2 : isW x s_acl = true := by rw [H.isW]; exact beq_self_eq_true _
  have p0 := H.adv rfl kw_insert (fun _ => rfl) (fun e => by cases e)
  have h1 := p0.eit1 (z := s_remove)
  have p1 := p0.adv rfl (show d ≤ 1000000 by omega) (fun _ => rfl) (fun e => by cases e)
  have h2 := p1.dev (m := 15) (by omega)
  have p2 := p1.adv rfl kw_at (fun _ => rfl) (fun e => by cases e)
  have h3 := p2.word
  have p3 := p2.adv rfl (show i ≤ 1000000 by omega) (fun _ => rfl) (fun e => by cases e)
  have h4 := p3.num (m := 63) (by omega)
  have p4 := p3.adv rfl kw_deny (fun _ => rfl) (fun e => by cases e)
  have h5 := p4.eit2 (y := s_permit) ne_deny_permit
  have p5 := p4.adv rfl (show p ≤ 1000000 by omega) (fun _ => rfl) (fun e => by cases e)
  have h6 := fun c => p5.pref (c := c) hp hl ha rfl rfl kw_class (fun _ => rfl) (fun e => by cases e)
  have h6w := (h6 .zero).1.word
  have p8 := (h6 .zero).1.adv rfl (show e ≤ 1000000 by omega) (fun _ => nwb_r hb h0) (fun e => by cases e)
  unfold changeX
  rw [if_neg (by rw [hr]; decide), if_pos hr2]
  unfold aclX
  simp only [h1.1, h1.2, h2.1, h2.2, h3, h4.1, h4.2, h5.1, h5.2, (h6 _).2, h6w, if_true]
  generalize advP s (prefX s (advP s (advP s (advP s (advP s (advP s (advP s x))))))) = x7 at *
  have h7 : isW x7 s_any = false := by unfold isW; rw [p8.tok.1]; rfl
  have h8 := p8.num (m := 15) (by omega)
  have p9 := p8.adv hb ht hn hE
  rw [if_neg (by rw [h7]; rintro ⟨_, e⟩; cases e)]
  simp only [h8.1, h8.2]
  exact ⟨p9, rfl⟩
theorem back_insPA (s : List Int) (x : PSt) (b : List Int) (t : TK) (ps : List (List Int × TK)) (hb : blk b = true) (h0 : b ≠ []) (ht : t.ok) (hn : t.mk = false → nwb (render ps) = true) (hE : t = .End → ps = []) (d i p l : Nat) (hd : d ≤ 15) (hi : i ≤ 63) (hp : p ≤ 255) (hl : l ≤ 8) (ha : algB (p : Int) (l : Int) = true) 
    (H : PA s x (.W s_acl) (([32], .W s_insert) :: ([32], .Dv d) :: ([32], .W s_at) :: ([32], .Nm i) :: ([32], .W s_permit) :: ([32], .Nm p) :: ([], .Sl) :: ([], .Nm l) :: ([32], .W s_class) :: ([32], .W s_any) :: (b, t) :: ps)) :
    PA s (changeX s x).1 t ps ∧ (changeX s x).2 = ⟨2, d, 0, p, l, i, 16, true, false⟩ := by
  have hr : isW x s_route = false := by rw [H.isW]; exact ne_acl_route
  have hr2 : isW x s_acl = true := by rw [H.isW]; exact beq_self_eq_true _
  have p0 := H.adv rfl kw_insert (fun _ => rfl) (fun e => by cases e)
  have h1 := p0.eit1 (z := s_remove)
  have p1 := p0.adv rfl (show d ≤ 1000000 by omega) (fun _ => rfl) (fun e => by cases e)
  have h2 := p1.dev (m := 15) (by omega)
  have p2 := p1.adv rfl kw_at (fun _ => rfl) (fun e => by cases e)
  have h3 := p2.word
  have p3 := p2.adv rfl (show i ≤ 1000000 by omega) (fun _ => rfl) (fun e => by cases e)
  have h4 := p3.num (m := 63) (by omega)
  have p4 := p3.adv rfl kw_permit (fun _ => rfl) (fun e => by cases e)
  have h5 := p4.eit1 (z := s_deny)
  have p5 := p4.adv rfl (show p ≤ 1000000 by omega) (fun _ => rfl) (fun e => by cases e)
  have h6 := fun c => p5.pref (c := c) hp hl ha rfl rfl kw_class (fun _ => rfl) (fun e => by cases e)
  have h6w := (h6 .zero).1.word
  have p8 := (h6 .zero).1.adv rfl kw_any (fun _ => nwb_r hb h0) (fun e => by cases e)
  unfold changeX
  rw [if_neg (by rw [hr]; decide), if_pos hr2]
  unfold aclX
  simp only [h1.1, h1.2, h2.1, h2.2, h3, h4.1, h4.2, h5.1, h5.2, (h6 _).2, h6w, if_true]
  generalize advP s (prefX s (advP s (advP s (advP s (advP s (advP s (advP s x))))))) = x7 at *
  have h7 : isW x7 s_any = true := by rw [p8.isW]; exact beq_self_eq_true _
  have p9 := p8.adv hb ht hn hE
  rw [if_pos ⟨p8.e, h7⟩]
  exact ⟨p9, rfl⟩
theorem back_insDA (s : List Int) (x : PSt) (b : List Int) (t : TK) (ps : List (List Int × TK)) (hb : blk b = true) (h0 : b ≠ []) (ht : t.ok) (hn : t.mk = false → nwb (render ps) = true) (hE : t = .End → ps = []) (d i p l : Nat) (hd : d ≤ 15) (hi : i ≤ 63) (hp : p ≤ 255) (hl : l ≤ 8) (ha : algB (p : Int) (l : Int) = true) 
    (H : PA s x (.W s_acl) (([32], .W s_insert) :: ([32], .Dv d) :: ([32], .W s_at) :: ([32], .Nm i) :: ([32], .W s_deny) :: ([32], .Nm p) :: ([], .Sl) :: ([], .Nm l) :: ([32], .W s_class) :: ([32], .W s_any) :: (b, t) :: ps)) :
    PA s (changeX s x).1 t ps ∧ (changeX s x).2 = ⟨2, d, 0, p, l, i, 16, false, false⟩ := by
  have hr : isW x s_route = false := by rw [H.isW]; exact ne_acl_route
  have hr2 : isW x s_acl = true := by rw [H.isW]; exact beq_self_eq_true _
  have p0 := H.adv rfl kw_insert (fun _ => rfl) (fun e => by cases e)
  have h1 := p0.eit1 (z := s_remove)
  have p1 := p0.adv rfl (show d ≤ 1000000 by omega) (fun _ => rfl) (fun e => by cases e)
  have h2 := p1.dev (m := 15) (by omega)
  have p2 := p1.adv rfl kw_at (fun _ => rfl) (fun e => by cases e)
  have h3 := p2.word
  have p3 := p2.adv rfl (show i ≤ 1000000 by omega) (fun _ => rfl) (fun e => by cases e)
  have h4 := p3.num (m := 63) (by omega)
  have p4 := p3.adv rfl kw_deny (fun _ => rfl) (fun e => by cases e)
  have h5 := p4.eit2 (y := s_permit) ne_deny_permit
  have p5 := p4.adv rfl (show p ≤ 1000000 by omega) (fun _ => rfl) (fun e => by cases e)
  have h6 := fun c => p5.pref (c := c) hp hl ha rfl rfl kw_class (fun _ => rfl) (fun e => by cases e)
  have h6w := (h6 .zero).1.word
  have p8 := (h6 .zero).1.adv rfl kw_any (fun _ => nwb_r hb h0) (fun e => by cases e)
  unfold changeX
  rw [if_neg (by rw [hr]; decide), if_pos hr2]
  unfold aclX
  simp only [h1.1, h1.2, h2.1, h2.2, h3, h4.1, h4.2, h5.1, h5.2, (h6 _).2, h6w, if_true]
  generalize advP s (prefX s (advP s (advP s (advP s (advP s (advP s (advP s x))))))) = x7 at *
  have h7 : isW x7 s_any = true := by rw [p8.isW]; exact beq_self_eq_true _
  have p9 := p8.adv hb ht hn hE
  rw [if_pos ⟨p8.e, h7⟩]
  exact ⟨p9, rfl⟩
theorem back_rem (s : List Int) (x : PSt) (b : List Int) (t : TK) (ps : List (List Int × TK)) (hb : blk b = true) (h0 : b ≠ []) (ht : t.ok) (hn : t.mk = false → nwb (render ps) = true) (hE : t = .End → ps = []) (d i : Nat) (hd : d ≤ 15) (hi : i ≤ 63)
    (H : PA s x (.W s_acl) (([32], .W s_remove) :: ([32], .Dv d) :: ([32], .W s_at) :: ([32], .Nm i) :: (b, t) :: ps)) :
    PA s (changeX s x).1 t ps ∧ (changeX s x).2 = ⟨3, d, 0, 0, 0, i, 0, false, false⟩ := by
  have hr : isW x s_route = false := by rw [H.isW]; exact ne_acl_route
  have hr2 : isW x s_acl = true := by rw [H.isW]; exact beq_self_eq_true _
  have p0 := H.adv rfl kw_remove (fun _ => rfl) (fun e => by cases e)
  have h1 := p0.eit2 (y := s_insert) ne_remove_insert
  have p1 := p0.adv rfl (show d ≤ 1000000 by omega) (fun _ => rfl) (fun e => by cases e)
  have h2 := p1.dev (m := 15) (by omega)
  have p2 := p1.adv rfl kw_at (fun _ => rfl) (fun e => by cases e)
  have h3 := p2.word
  have p3 := p2.adv rfl (show i ≤ 1000000 by omega) (fun _ => nwb_r hb h0) (fun e => by cases e)
  have h4 := p3.num (m := 63) (by omega)
  have p4 := p3.adv hb ht hn hE
  unfold changeX
  rw [if_neg (by rw [hr]; decide), if_pos hr2]
  unfold aclX
  simp only [h1.1, h1.2, h2.1, h2.2, h3, h4.1, h4.2]
  rw [if_neg (by decide)]
  exact ⟨p4, rfl⟩
theorem back_linkU (s : List Int) (x : PSt) (b : List Int) (t : TK) (ps : List (List Int × TK)) (hb : blk b = true) (h0 : b ≠ []) (ht : t.ok) (hn : t.mk = false → nwb (render ps) = true) (hE : t = .End → ps = []) (d h : Nat) (hdh : d < h) (hh : h ≤ 15)
    (H : PA s x (.W s_link) (([32], .Dv d) :: ([32], .Dv h) :: ([32], .W s_up) :: (b, t) :: ps)) :
    PA s (changeX s x).1 t ps ∧ (changeX s x).2 = ⟨4, d, h, 0, 0, 0, 0, false, true⟩ := by
  have hr : isW x s_route = false := by rw [H.isW]; exact ne_link_route
  have hr1 : isW x s_acl = false := by rw [H.isW]; exact ne_link_acl
  have hr2 : isW x s_link = true := by rw [H.isW]; exact beq_self_eq_true _
  have p0 := H.adv rfl (show d ≤ 1000000 by omega) (fun _ => rfl) (fun e => by cases e)
  have h1 := p0.dev (m := 15) (by omega)
  have p1 := p0.adv rfl (show h ≤ 1000000 by omega) (fun _ => rfl) (fun e => by cases e)
  have h2 := p1.dev (m := 15) (by omega)
  have p2 := p1.adv rfl kw_up (fun _ => nwb_r hb h0) (fun e => by cases e)
  have h3 := p2.eit1 (z := s_down)
  have p3 := p2.adv hb ht hn hE
  unfold changeX
  rw [if_neg (by rw [hr]; decide), if_neg (by rw [hr1]; decide), if_pos hr2]
  unfold linkX
  simp only [h1.1, h1.2, h2.1, h2.2]
  rw [if_pos p2.e, if_neg (by omega)]
  simp only [h3.1, h3.2]
  exact ⟨p3, rfl⟩
theorem back_ifU (s : List Int) (x : PSt) (b : List Int) (t : TK) (ps : List (List Int × TK)) (hb : blk b = true) (h0 : b ≠ []) (ht : t.ok) (hn : t.mk = false → nwb (render ps) = true) (hE : t = .End → ps = []) (d : Nat) (hd : d ≤ 15)
    (H : PA s x (.W s_iface) (([32], .Dv d) :: ([32], .W s_up) :: (b, t) :: ps)) :
    PA s (changeX s x).1 t ps ∧ (changeX s x).2 = ⟨5, d, 0, 0, 0, 0, 0, false, true⟩ := by
  have hr : isW x s_route = false := by rw [H.isW]; exact ne_iface_route
  have hr1 : isW x s_acl = false := by rw [H.isW]; exact ne_iface_acl
  have hr2 : isW x s_link = false := by rw [H.isW]; exact ne_iface_link
  have hr3 : isW x s_iface = true := by rw [H.isW]; exact beq_self_eq_true _
  have p0 := H.adv rfl (show d ≤ 1000000 by omega) (fun _ => rfl) (fun e => by cases e)
  have h1 := p0.dev (m := 15) (by omega)
  have p1 := p0.adv rfl kw_up (fun _ => nwb_r hb h0) (fun e => by cases e)
  have h2 := p1.eit1 (z := s_down)
  have p2 := p1.adv hb ht hn hE
  unfold changeX
  rw [if_neg (by rw [hr]; decide), if_neg (by rw [hr1]; decide), if_neg (by rw [hr2]; decide), if_pos hr3]
  unfold ifaceX
  simp only [h1.1, h1.2, h2.1, h2.2]
  exact ⟨p2, rfl⟩
theorem back_linkD (s : List Int) (x : PSt) (b : List Int) (t : TK) (ps : List (List Int × TK)) (hb : blk b = true) (h0 : b ≠ []) (ht : t.ok) (hn : t.mk = false → nwb (render ps) = true) (hE : t = .End → ps = []) (d h : Nat) (hdh : d < h) (hh : h ≤ 15)
    (H : PA s x (.W s_link) (([32], .Dv d) :: ([32], .Dv h) :: ([32], .W s_down) :: (b, t) :: ps)) :
    PA s (changeX s x).1 t ps ∧ (changeX s x).2 = ⟨4, d, h, 0, 0, 0, 0, false, false⟩ := by
  have hr : isW x s_route = false := by rw [H.isW]; exact ne_link_route
  have hr1 : isW x s_acl = false := by rw [H.isW]; exact ne_link_acl
  have hr2 : isW x s_link = true := by rw [H.isW]; exact beq_self_eq_true _
  have p0 := H.adv rfl (show d ≤ 1000000 by omega) (fun _ => rfl) (fun e => by cases e)
  have h1 := p0.dev (m := 15) (by omega)
  have p1 := p0.adv rfl (show h ≤ 1000000 by omega) (fun _ => rfl) (fun e => by cases e)
  have h2 := p1.dev (m := 15) (by omega)
  have p2 := p1.adv rfl kw_down (fun _ => nwb_r hb h0) (fun e => by cases e)
  have h3 := p2.eit2 (y := s_up) ne_down_up
  have p3 := p2.adv hb ht hn hE
  unfold changeX
  rw [if_neg (by rw [hr]; decide), if_neg (by rw [hr1]; decide), if_pos hr2]
  unfold linkX
  simp only [h1.1, h1.2, h2.1, h2.2]
  rw [if_pos p2.e, if_neg (by omega)]
  simp only [h3.1, h3.2]
  exact ⟨p3, rfl⟩
theorem back_ifD (s : List Int) (x : PSt) (b : List Int) (t : TK) (ps : List (List Int × TK)) (hb : blk b = true) (h0 : b ≠ []) (ht : t.ok) (hn : t.mk = false → nwb (render ps) = true) (hE : t = .End → ps = []) (d : Nat) (hd : d ≤ 15)
    (H : PA s x (.W s_iface) (([32], .Dv d) :: ([32], .W s_down) :: (b, t) :: ps)) :
    PA s (changeX s x).1 t ps ∧ (changeX s x).2 = ⟨5, d, 0, 0, 0, 0, 0, false, false⟩ := by
  have hr : isW x s_route = false := by rw [H.isW]; exact ne_iface_route
  have hr1 : isW x s_acl = false := by rw [H.isW]; exact ne_iface_acl
  have hr2 : isW x s_link = false := by rw [H.isW]; exact ne_iface_link
  have hr3 : isW x s_iface = true := by rw [H.isW]; exact beq_self_eq_true _
  have p0 := H.adv rfl (show d ≤ 1000000 by omega) (fun _ => rfl) (fun e => by cases e)
  have h1 := p0.dev (m := 15) (by omega)
  have p1 := p0.adv rfl kw_down (fun _ => nwb_r hb h0) (fun e => by cases e)
  have h2 := p1.eit2 (y := s_up) ne_down_up
  have p2 := p1.adv hb ht hn hE
  unfold changeX
  rw [if_neg (by rw [hr]; decide), if_neg (by rw [hr1]; decide), if_neg (by rw [hr2]; decide), if_pos hr3]
  unfold ifaceX
  simp only [h1.1, h1.2, h2.1, h2.2]
  exact ⟨p2, rfl⟩
/-- A change comes back. -/
theorem change_back (s : List Int) (x : PSt) (b : List Int) (t : TK) (ps : List (List Int × TK)) (hb : blk b = true) (h0 : b ≠ []) (ht : t.ok) (hn : t.mk = false → nwb (render ps) = true) (hE : t = .End → ps = []) (c : Chg) (hg : GoodC c) (H : PA s x (hdK c) (tlK c ++ (b, t) :: ps)) : PA s (changeX s x).1 t ps ∧ (changeX s x).2 = c := by
  obtain ⟨kd, dv, hp, pr, ln, ix, cl, pm, up⟩ := c
  obtain ⟨⟨hd0, hd1⟩, hk⟩ := hg
  obtain ⟨d, rfl⟩ : ∃ d : Nat, dv = d := ⟨dv.toNat, by simp only [] at hd0; omega⟩
  simp only [] at hd0 hd1 hk
  rcases hk with ⟨rfl, hgp, hhp, rfl, rfl, rfl, rfl⟩ | ⟨rfl, hgp, rfl, rfl, rfl, rfl, rfl⟩ | ⟨rfl, hgp, rfl, hix, hcl, rfl⟩ | ⟨rfl, rfl, rfl, rfl, hix, rfl, rfl, rfl⟩ | ⟨rfl, rfl, rfl, hhp, rfl, rfl, rfl⟩ | ⟨rfl, rfl, rfl, rfl, rfl, rfl, rfl⟩
  · obtain ⟨⟨g1, g2⟩, ⟨g3, g4⟩, ga⟩ := hgp
    obtain ⟨h, rfl⟩ : ∃ h : Nat, hp = h := ⟨hp.toNat, by omega⟩
    obtain ⟨p, rfl⟩ : ∃ p : Nat, pr = p := ⟨pr.toNat, by omega⟩
    obtain ⟨l, rfl⟩ : ∃ l : Nat, ln = l := ⟨ln.toNat, by omega⟩
    exact back_add s x b t ps hb h0 ht hn hE d h p l (by omega) (by omega) (by omega) (by omega) ga H
  · obtain ⟨⟨g1, g2⟩, ⟨g3, g4⟩, ga⟩ := hgp
    obtain ⟨p, rfl⟩ : ∃ p : Nat, pr = p := ⟨pr.toNat, by omega⟩
    obtain ⟨l, rfl⟩ : ∃ l : Nat, ln = l := ⟨ln.toNat, by omega⟩
    exact back_del s x b t ps hb h0 ht hn hE d p l (by omega) (by omega) (by omega) ga H
  · obtain ⟨⟨g1, g2⟩, ⟨g3, g4⟩, ga⟩ := hgp
    obtain ⟨p, rfl⟩ : ∃ p : Nat, pr = p := ⟨pr.toNat, by omega⟩
    obtain ⟨l, rfl⟩ : ∃ l : Nat, ln = l := ⟨ln.toNat, by omega⟩
    obtain ⟨i, rfl⟩ : ∃ i : Nat, ix = i := ⟨ix.toNat, by omega⟩
    obtain ⟨e, rfl⟩ : ∃ e : Nat, cl = e := ⟨cl.toNat, by omega⟩
    unfold hdK tlK at H
    simp only [Int.toNat_natCast] at H
    rw [if_neg (by decide), if_neg (by decide), if_pos trivial, if_neg (by decide), if_neg (by decide), if_pos trivial] at H
    by_cases h16 : (e : Int) = 16
    · rw [if_pos h16] at H
      rw [h16]
      cases pm
      · exact back_insDA s x b t ps hb h0 ht hn hE d i p l (by omega) (by omega) (by omega) (by omega) ga H
      · exact back_insPA s x b t ps hb h0 ht hn hE d i p l (by omega) (by omega) (by omega) (by omega) ga H
    · rw [if_neg h16] at H
      cases pm
      · exact back_insD s x b t ps hb h0 ht hn hE d i p l (by omega) (by omega) (by omega) (by omega) ga e (by omega) H
      · exact back_insP s x b t ps hb h0 ht hn hE d i p l (by omega) (by omega) (by omega) (by omega) ga e (by omega) H
  · obtain ⟨i, rfl⟩ : ∃ i : Nat, ix = i := ⟨ix.toNat, by omega⟩
    exact back_rem s x b t ps hb h0 ht hn hE d i (by omega) (by omega) H
  · obtain ⟨h, rfl⟩ : ∃ h : Nat, hp = h := ⟨hp.toNat, by omega⟩
    cases up
    · exact back_linkD s x b t ps hb h0 ht hn hE d h (by omega) (by omega) H
    · exact back_linkU s x b t ps hb h0 ht hn hE d h (by omega) (by omega) H
  · cases up
    · exact back_ifD s x b t ps hb h0 ht hn hE d (by omega) H
    · exact back_ifU s x b t ps hb h0 ht hn hE d (by omega) H
/-- The end of a batch's pieces. -/
def endK : List (List Int × TK) := [([10], .Cl), ([10], .End)]
def allK (C : List Chg) : List (List Int × TK) := C.flatMap pcs ++ endK
theorem all_cons (c : Chg) (C : List Chg) : allK (c :: C) = ([10, 32, 32], hdK c) :: (tlK c ++ allK C) := by
  unfold allK
  rw [List.flatMap_cons, List.append_assoc]
  rfl
/-- what stands first -/
theorem all_hd (C : List Chg) : ∃ b t ps, allK C = (b, t) :: ps ∧ blk b = true ∧ b ≠ [] ∧ t.ok ∧ (t.mk = false → nwb (render ps) = true) ∧ t ≠ .End := by
  cases C with
  | nil => exact ⟨[10], .Cl, [([10], .End)], rfl, rfl, by decide, trivial, fun _ => rfl, fun e => by cases e⟩
  | cons c C =>
    refine ⟨_, _, _, all_cons c C, rfl, by decide, (hd_ok c).1, fun _ => ?_, fun e => ?_⟩
    · unfold tlK
      repeat' split
      all_goals rfl
    · have := (hd_ok c).2.1
      have h2 := (hd_ok c).2.2 ⟨0, 0, ⟨#[]⟩, 0⟩
      rw [e] at h2
      exact absurd (h2 rfl) (by decide)
theorem loop_back : ∀ (C : List Chg) (s : List Int) (n : Nat) (x : PSt) (C0 : List Chg) (b : List Int) (t : TK) (ps : List (List Int × TK)), (∀ c ∈ C, GoodC c) → C.length < n → C0.length + C.length ≤ 128 → allK C = (b, t) :: ps → PA s x t ps →
    PA s (loopX s n x C0).1 .Cl [([10], .End)] ∧ (loopX s n x C0).2 = C0 ++ C
  | [], s, 0, x, C0, b, t, ps, _, h1, _, _, _ => by cases h1
  | [], s, n + 1, x, C0, b, t, ps, _, _, _, he, H => by
    injection he with he1 he2
    injection he1 with he3 he4
    subst he3 he4 he2
    have hk : x.t.k = 6 := H.tok
    rw [loopX, if_pos H.e, if_pos hk, List.append_nil]
    exact ⟨H, rfl⟩
  | c :: C, s, 0, x, C0, b, t, ps, _, h1, _, _, _ => by cases h1
  | c :: C, s, n + 1, x, C0, b, t, ps, hg, h1, h2, he, H => by
    rw [all_cons] at he
    injection he with he1 he2
    injection he1 with he3 he4
    subst he3 he4 he2
    have hk : x.t.k = 1 := (hd_ok c).2.2 _ H.tok
    rw [List.length_cons] at h1 h2
    obtain ⟨b, t, ps, ha, k1, k2, k3, k4, k5⟩ := all_hd C
    rw [ha] at H
    obtain ⟨r1, r2⟩ := change_back s x b t ps k1 k2 k3 k4 (fun e => absurd e k5) c (hg c (List.mem_cons_self ..)) H
    rw [loopX, if_pos H.e, if_neg (by omega), if_neg (by omega), r2]
    obtain ⟨q1, q2⟩ := loop_back C s n (changeX s x).1 (C0 ++ [c]) b t ps (fun y hy => hg y (List.mem_cons_of_mem _ hy)) (by omega) (by rw [List.length_append, List.length_singleton]; omega) ha r1
    exact ⟨q1, by rw [q2]; simp⟩
/-- the text is the pieces' -/
theorem all_text : ∀ (C : List Chg), (∀ c ∈ C, GoodC c) → render (allK C) = 10 :: (C.flatMap chgT ++ [125, 10])
  | [], _ => rfl
  | c :: C, hg => by
    have ih := all_text C (fun y hy => hg y (List.mem_cons_of_mem _ hy))
    have hc := hg c (List.mem_cons_self ..)
    rw [all_cons, render_cons, render_app, ih, List.flatMap_cons]
    have key : [10, 32, 32] ++ ((hdK c).text ++ (render (tlK c) ++ [10])) = 10 :: chgT c := by
      obtain ⟨kd, dv, hp, pr, ln, ix, cl, pm, up⟩ := c
      obtain ⟨_, hk⟩ := hc
      simp only [] at hk
      rcases hk with ⟨rfl, _⟩ | ⟨rfl, _⟩ | ⟨rfl, _⟩ | ⟨rfl, _⟩ | ⟨rfl, _⟩ | ⟨rfl, _⟩
      · simp [hdK, tlK, chgT, render, TK.text, devT, prefT, strL, s_route, s_add, s_via]
      · simp [hdK, tlK, chgT, render, TK.text, devT, prefT, strL, s_route, s_del]
      · by_cases h16 : cl = 16
        · cases pm <;> simp [hdK, tlK, chgT, render, TK.text, devT, prefT, strL, s_acl, s_insert, s_at, s_permit, s_deny, s_class, s_any, h16]
        · cases pm <;> simp [hdK, tlK, chgT, render, TK.text, devT, prefT, strL, s_acl, s_insert, s_at, s_permit, s_deny, s_class, h16]
      · simp [hdK, tlK, chgT, render, TK.text, devT, strL, s_acl, s_remove, s_at]
      · cases up <;> simp [hdK, tlK, chgT, render, TK.text, devT, strL, s_link, s_up, s_down]
      · cases up <;> simp [hdK, tlK, chgT, render, TK.text, devT, strL, s_iface, s_up, s_down]
    have e : ([10, 32, 32] ++ ((hdK c).text ++ (render (tlK c) ++ [10]))) ++ (C.flatMap chgT ++ [125, 10]) = (10 :: chgT c) ++ (C.flatMap chgT ++ [125, 10]) := by rw [key]
    simpa [List.append_assoc] using e
/-- A good batch, printed, is parsed back. -/
theorem parse_print (id : Int) (C : List Chg) (hid : 0 ≤ id ∧ id ≤ 999999) (hlen : C.length ≤ 128) (hg : ∀ c ∈ C, GoodC c) : parseP (printT id C) = ⟨id, C, 0, 0⟩ := by
  obtain ⟨n, rfl⟩ : ∃ n : Nat, id = n := ⟨id.toNat, by omega⟩
  obtain ⟨b, t, ps, ha, k1, k2, k3, k4, k5⟩ := all_hd C
  have ht : printT n C = render (([], .W s_batch) :: ([32], .Nm n) :: ([32], .Op) :: (b, t) :: ps) := by
    rw [← ha, render_cons, render_cons, render_cons, all_text C hg]
    unfold printT
    simp [TK.text, strL, s_batch]
  generalize printT n C = s at *
  have p0 : PA s (advP s x0) (.W s_batch) (([32], .Nm n) :: ([32], .Op) :: (b, t) :: ps) := adv_to rfl (show s.drop 0 = _ by rw [List.drop_zero]; exact ht) rfl kw_batch (fun _ => rfl) (fun e => by cases e)
  have h1 := p0.word
  have p1 := p0.adv rfl (show n ≤ 1000000 by omega) (fun _ => rfl) (fun e => by cases e)
  have h2 := p1.num (m := 999999) (by omega)
  have p2 := p1.adv rfl trivial (fun e => by cases e) (fun e => by cases e)
  have h3 := p2.mark (k := 5) p2.tok
  have p3 := p2.adv k1 k3 k4 (fun e => absurd e k5)
  obtain ⟨q1, q2⟩ := loop_back C s 129 _ [] b t ps hg (by omega) (by simpa using hlen) ha p3
  have h4 := q1.mark (k := 6) q1.tok
  have p4 := q1.adv rfl trivial (fun _ => rfl) (fun _ => rfl)
  have h5 := p4.mark (k := 0) p4.tok
  unfold parseP
  simp only [h1, h2.1, h2.2, h3, h4, h5, q2]
  rw [if_pos (show (advP s (advP s _)).e = 0 from p4.e), List.nil_append]
end Go.Proofs.Qxb6500778a
