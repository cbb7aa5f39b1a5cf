/- The reference's dialogue, told by the plain one; it comes to an op; it begins. -/
import Derived.Test.YtpkkfdmhbbipoaaGreatRf
namespace Go.Proofs.YtpkkfdmhbbipoaaGreat
open Go.RowKit PopT
def refL (x : DialV) (A : Option Addr) (c : Nat) (Av : Option Addr) (nv cv : Nat) (tr : Int) : List Value := [.int .i64 x.s.live, .int .i64 x.s.ring, .int .i64 x.s.win, .int .i64 x.s.out, .int .i64 x.s.quan, .int .i64 x.s.vis, .string x.p.name, .int .i64 x.p.deadline, .int .i64 x.p.jumps, .slice A x.p.ops.length c, .int .i64 (x.loc : Int), .int .i64 (x.st : Int), .int .i64 (x.jumps : Int), .int .i64 x.due.til, .int .i64 x.due.lim, .int .i64 x.due.cut, .string (rgT x.R), .int .i64 x.s.win, .string (rgT x.S), .int .i64 (x.seen : Int), .slice Av nv cv, .string (x.pd.text.extract 0 x.pd.sent), .string x.pd.peek, .string (x.pd.text.extract x.pd.laid x.pd.text.size), .int .i64 x.s.out, .int .i64 tr, .bool x.eof, .int .i64 x.now]
def RefD (b : Nat) (w : World) (x : DialV) (v : Value) : Prop := ∃ A c Av nv cv tr, v = .agg (refL x A c Av nv cv tr).toArray ∧ OpsIn w A x.p.ops ∧ PatV b w x.P (.slice Av nv cv)
theorem RefD.below {b : Nat} {w w' : World} {x : DialV} {v : Value} (h : RefD b w x v) (hb : Below w.heap.size w w') : RefD b w' x v := by
 obtain ⟨A, c, Av, nv, cv, tr, h1, h2, h3⟩ := h
 exact ⟨A, c, Av, nv, cv, tr, h1, h2.below hb, h3.below hb (Nat.le_refl _)⟩
theorem RefD.mono {b b2 : Nat} {w : World} {x : DialV} {v : Value} (h : RefD b w x v) (hb : b2 ≤ b) : RefD b2 w x v := by
 obtain ⟨A, c, Av, nv, cv, tr, h1, h2, h3⟩ := h
 exact ⟨A, c, Av, nv, cv, tr, h1, h2, h3.keep (Keep.refl (fun _ => False) _) hb (fun _ _ _ h => h)⟩
def zeroRow (cs : List Value) : Prop := ∀ u ∈ cs, (∀ v, u = .int .i64 v → v = 0) ∧ ∀ s, u = .string s → s = ⟨#[]⟩
theorem rd_unzero {w w' : World} {g : Nat} {t : TypeId} {zs : List Value} {A : Option Addr} {xs : List Value} (h : Rd w A xs) (hz : Blk w g t zs.toArray) (h0 : zeroRow zs) (hx : ∀ u, xs[0]? = some u → (∃ v, u = .int .i64 v ∧ v ≠ 0) ∨ ∃ s, u = .string s ∧ s ≠ ⟨#[]⟩) (hk : Keep (fun k => k = g) w w') : Rd w' A xs := by
 cases xs with
 | nil => exact .inl rfl
 | cons u xs =>
  rcases h with h | ⟨b, off, hA, hlt, hc⟩
  ·cases h
  refine hk.rd (.inr ⟨b, off, hA, hlt, hc⟩) (fun a ha (e : a.block = g) => ?_)
  rw [hA] at ha
  injection ha with ha
  subst ha
  simp only at e
  subst e
  have h1 := hc 0 u rfl
  rw [hz.cell] at h1
  have hm : u ∈ zs := by
   have h2 : zs[off + 0]? = some u := by simpa using h1
   exact List.mem_of_getElem? h2
  rcases hx u rfl with ⟨v, rfl, hv⟩ | ⟨s, rfl, hs⟩
  ·exact hv ((h0 _ hm).1 v rfl)
  ·exact hs ((h0 _ hm).2 s rfl)
theorem ops_unzero {w w' : World} {g : Nat} {t : TypeId} {zs : List Value} {A : Option Addr} {l : List OpV} (h : OpsIn w A l) (hz : Blk w g t zs.toArray) (h0 : zeroRow zs) (hg : ∀ o ∈ l, o.kind ≠ 0 ∧ ∀ m ∈ o.arms, m.pat ≠ ⟨#[]⟩) (hk : Keep (fun k => k = g) w w') : OpsIn w' A l := by
 obtain ⟨xs, rfl, h2, h3⟩ := h
 refine ⟨xs, rfl, rd_unzero h2 hz h0 (fun u hu => ?_) hk, fun x hx => ?_⟩
 ·cases xs with
  | nil => cases hu
  | cons y xs =>
   simp only [opVCells, List.flatMap_cons, OpV.cells, List.cons_append, List.getElem?_cons_zero, Option.some.injEq] at hu
   exact .inl ⟨_, hu.symm, (hg y.1 (by simp)).1⟩
 ·obtain ⟨A2, c2, e, h4⟩ := h3 x hx
  refine ⟨A2, c2, e, rd_unzero h4 hz h0 (fun u hu => ?_) hk⟩
  have hgx := (hg x.1 (List.mem_map_of_mem hx)).2
  cases ha : x.1.arms with
  | nil => rw [ha] at hu; cases hu
  | cons m ms =>
   rw [ha] at hu hgx
   simp only [armVCells, List.flatMap_cons, ArmV.cells, List.cons_append, List.getElem?_cons_zero, Option.some.injEq] at hu
   exact .inr ⟨_, hu.symm, hgx m (by simp)⟩
theorem RefD.unzero {b : Nat} {w w' : World} {x : DialV} {v : Value} {g : Nat} {t : TypeId} {zs : List Value} (h : RefD b w x v) (hz : Blk w g t zs.toArray) (h0 : zeroRow zs) (hg : ∀ o ∈ x.p.ops, o.kind ≠ 0 ∧ ∀ m ∈ o.arms, m.pat ≠ ⟨#[]⟩) (hk : Keep (fun k => k = g) w w') (hb : g < b) : RefD b w' x v := by
 obtain ⟨A, c, Av, nv, cv, tr, h1, h2, h3⟩ := h
 exact ⟨A, c, Av, nv, cv, tr, h1, ops_unzero h2 hz h0 hg hk, h3.keep hk (Nat.le_refl _) (fun k hk1 _ (e : k = g) => by omega)⟩
theorem RefD.agg {b : Nat} {w : World} {x : DialV} {v : Value} (h : RefD b w x v) : ∃ cs : List Value, v = .agg cs.toArray ∧ cs.length = 28 ∧ cs.toArray.all (·.oneCell') = true := by
 obtain ⟨A, c, Av, nv, cv, tr, h1, -⟩ := h
 exact ⟨_, h1, rfl, by kernel_rfl⟩
theorem PatV.nil0 (b : Nat) (w : World) : PatV b w [] (.slice none 0 0) := ⟨none, 0, [], rfl, World.ownsRow_nil _ _ _ _, Lists.nil _ _⟩
theorem arms_good {p : ProgV} (hg : (wrongM p).2 = 0) (o : OpV) (ho : o ∈ p.ops) (hk : o.kind = 2) : (newM (o.arms.map ArmV.pat)).2.2 = 0 ∧ o.arms.length ≤ 8 ∧ ∀ m ∈ o.arms, m.pat.size ≤ 64 := by
 have he := expectE_zero _ _ (opE_expect _ _ ((wrongM_zero _ hg).2.2 o ho) hk)
 have ha := armsE_zero _ _ he.2
 refine ⟨newM_zero _ (by rw [List.length_map]; exact he.1) fun p hp => ?_, he.1, fun m hm => (ha m hm).1⟩
 obtain ⟨m, hm, rfl⟩ := List.mem_map.1 hp
 exact (ha m hm).2.1
theorem pk0 (s : ByteArray) (m : Nat) : (PendV.mk m s 0 0).peek = ⟨#[]⟩ := extract_nil s 0
theorem ex0 (s : ByteArray) : s.extract 0 s.size = s := by
 apply ByteArray.ext
 simp
def RefU (b : Nat) (w0 w w' : World) (x : DialV) (v : Value) : Prop := ∀ W', Keep (fun k => w0.heap.size ≤ k ∧ k < w.heap.size) w' W' → RefD b W' x v
theorem RefU.use {b : Nat} {w0 w1 w w2 w' : World} {x : DialV} {v : Value} (h : RefU b w0 w1 w2 x v) (hk : Keep (fun k => w0.heap.size ≤ k ∧ k < w1.heap.size) w2 w') (hs : w.heap.size ≤ w1.heap.size) : RefU b w0 w w' x v :=
 fun W' hW => h W' (hk.trans (hW.mono (fun _ _ hk2 => ⟨hk2.1, Nat.lt_of_lt_of_le hk2.2 hs⟩) : Keep (fun k => w0.heap.size ≤ k ∧ k < w1.heap.size) w' W') (fun _ hk2 => .inl hk2))
theorem RefU.now {b : Nat} {w0 w w' : World} {x : DialV} {v : Value} (h : RefU b w0 w w' x v) : RefD b w' x v := h w' (Keep.refl _ _)
theorem rComeD {b : Nat} {w0 w : World} {x : DialV} {v : Value} (h : RefD b w0 x v) (hw : Below w0.heap.size w0 w) (hbw : b ≤ w.heap.size) (tn : Nat) (hok : DialOk x) :
  Calls Tryz.prog 103 #[v, .int .i64 (tn : Int)] w fun e w' => ∃ v', e = .returned v' ∧ RefU b w0 w w' (x.come tn) v' ∧ Below w.heap.size w w' := by
 obtain ⟨A, c, Av, nv, cv, tr, rfl, h2, h3⟩ := h
 have hwin := goodS_bd hok.good
 have H := rCome_w x.s.live x.s.ring x.s.win x.s.out x.s.quan x.s.vis x.p.deadline x.p.jumps (x.loc : Int) (x.st : Int) (x.jumps : Int) x.due.til x.due.lim x.due.cut x.s.win (x.seen : Int) x.s.out tr x.now x.p.name (rgT x.R) (rgT x.S) (x.pd.text.extract 0 x.pd.sent) x.pd.peek (x.pd.text.extract x.pd.laid x.pd.text.size) A Av x.p.ops.length c nv cv x.eof
  x.p.ops tn w (h2.below hw) rfl ⟨by have := hok.now; omega, hok.now.2⟩ (fun o ho => (hok.pok.2.2.2.2 o ho).2.2.1) (arms_good hok.pgood) x.S x.seen x.s.win.toNat rfl rfl (by omega)
 refine H.mono ?_
 rintro e w' ⟨hb, d1', se', V', dn', ot', rs', tr', rfl, hc⟩
 refine ⟨_, rfl, ?_, hb⟩
 intro W' hW
 have hbw2 : Below w0.heap.size w0 W' := hw.trans ((hb.mono hw.size).trans (hW.below (Nat.le_trans hw.size hb.size) (fun _ hk => hk.1)))
 have hin := h2.below hbw2
 have hp0 := h3.below hbw2 (Nat.le_refl b)
 show RefD b W' (x.goes tn).enters _
 have hop : (x.goes tn).op = x.p.ops.getD tn dNone := rfl
 rcases hc with ⟨hk, rfl, rfl, rfl, rfl, rfl, rfl⟩ | ⟨hk, rfl, rfl, hp, rfl, rfl, rfl, rfl⟩ | ⟨hk, rfl, rfl, rfl, rfl, rfl, rfl, rfl⟩ | ⟨hk1, hk2, hk4, rfl, rfl, rfl, rfl, rfl, rfl, rfl⟩
 ·have he : (x.goes tn).enters = (x.goes tn).writes := by unfold DialV.enters; rw [hop]; exact if_pos hk
  rw [he]
  refine ⟨A, c, Av, nv, cv, tr', ?_, hin, hp0⟩
  show _ = Value.agg (refL ⟨x.s, x.p, tn, x.st, x.jumps, x.due.rest, x.R, x.S, x.seen, x.P, ⟨x.pd.out, (x.p.ops.getD tn dNone).text, 0, 0⟩, x.eof, x.now⟩ A c Av nv cv tr').toArray
  unfold refL
  simp only [pk0, extract_nil, ex0]
  rfl
 ·obtain ⟨Ap, cp, vs, rfl, hp1, hp2⟩ := hp
  have he : (x.goes tn).enters = (x.goes tn).hears.waits := by unfold DialV.enters; rw [hop]; rw [if_neg (by rw [hk]; decide), if_pos hk]
  rw [he]
  exact ⟨A, c, Ap, _, cp, tr', rfl, hin, PatV.keep ⟨Ap, cp, vs, rfl, hp1, hp2⟩ hW hbw (fun k h1 _ h3 => Nat.lt_irrefl _ (Nat.lt_of_lt_of_le h3.2 h1))⟩
 ·have he : (x.goes tn).enters = (x.goes tn).waits := by unfold DialV.enters; rw [hop]; rw [if_neg (by rw [hk]; decide), if_neg (by rw [hk]; decide), if_pos hk]
  rw [he]
  exact ⟨A, c, Av, nv, cv, tr', rfl, hin, hp0⟩
 ·have he : (x.goes tn).enters = x.goes tn := by unfold DialV.enters; rw [hop]; rw [if_neg hk1, if_neg hk2, if_neg hk4]
  rw [he]
  exact ⟨A, c, Av, nv, cv, tr', rfl, hin, hp0⟩
theorem finRow0 {P : Program} {w we : World} {gr : Nat} {t : TypeId} {xs : List Value} {z : Array Value} {d : TypeDesc} (hr : Blk we gr t z) (hb : Below w.heap.size w we) (hg : w.heap.size ≤ gr)
  (hu : P.underlying t = some d) (hdr : d.isRow = true) (hi : (P.info? t).map (·.size) = some xs.length) :
  (loadVar t ⟨gr, 0, none⟩).run P (we.setRow gr xs.toArray) = .ok (.agg xs.toArray) (we.setRow gr xs.toArray) ∧ Below w.heap.size w (we.setRow gr xs.toArray) ∧ Keep (fun k => k = gr) we (we.setRow gr xs.toArray) :=
 ⟨run_loadVar_mid (P := P) _ gr 0 t xs d (Blk.range (hr.setRow _)) hu hdr hi, hb.trans ((Keep.setRow (fun k => k = gr) _ gr _ rfl).below hb.size (fun k (e : k = gr) => by rw [e]; exact hg)), Keep.setRow (fun k => k = gr) _ gr _ rfl⟩
def RNewQ (gs : Bool) (pw : Nat) (nv : DialV) (w : World) (e : Ending) (w' : World) : Prop := Below w.heap.size w w' ∧ ∃ v : Value, ∃ n : Nat, e = .returned (.tuple #[v, .int .i64 (n : Int)]) ∧ n = (if gs = false then 1 else if pw ≠ 0 then 2 else 0) ∧ (∃ cs : List Value, v = .agg cs.toArray ∧ cs.length = 28 ∧ cs.toArray.all (·.oneCell') = true) ∧ (n = 0 → RefD w.heap.size w' (nv.come 0) v)
theorem alloc3 {w wz : World} {c1 c2 c3 : Array Value} {t1 t2 t3 : TypeId} (h : ((w.alloc (.cells c1 t1)).alloc (.cells c2 t2)).alloc (.cells c3 t3) = wz) : ∃ gs gp gr, w.heap.size = gs ∧ w.heap.size + 1 = gp ∧ w.heap.size + 2 = gr ∧ Hid (Blk wz gs t1 c1) ∧ Hid (Blk wz gp t2 c2) ∧ Hid (Blk wz gr t3 c3) ∧ Hid (Below w.heap.size w wz) ∧ Hid (w.heap.size ≤ gr) := by
 subst h
 exact ⟨_, _, _, rfl, rfl, rfl, ((Blk.new w _ _).alloc _).alloc _, (new2 _ _ _ _).alloc _, new3 _ _ _ _ _, below3 _ _ _ _, by show w.heap.size ≤ w.heap.size + 2; omega⟩
set_option maxRecDepth 20000 in
set_option maxHeartbeats 4000000 in
theorem rNewD (s : SetV) (p : ProgV) (A : Option Addr) (c : Nat) (now : Int) (w : World) (hin : OpsIn w A p.ops) (hok : ProgOk p) (hnow : I6 now) (ha : ∀ o ∈ p.ops, ∀ a ∈ o.arms, a.pat.size ≤ 1000000) :
  Calls Tryz.prog 56 #[s.val, p.val (.slice A p.ops.length c), .int .i64 now] w fun e w' => RNewQ (goodS s) (wrongM p).2 (newV s p now) w e w' := by
 have HG : Hid (∀ W, Calls Tryz.prog 60 #[s.val] W fun e w' => e = .returned (.bool (goodS s)) ∧ Below W.heap.size W w') := fun W => good18_any s W
 have HP : Hid (∀ W, Below w.heap.size w W → Calls Tryz.prog 72 #[p.val (.slice A p.ops.length c)] W fun e w' => e = .returned (.bool (decide ((wrongM p).2 = 0))) ∧ Below W.heap.size W w') := fun W hb => rGood_any p A c W (hin.below hb) hok ha
 have HNV : Hid (goodS s = true → (wrongM p).2 = 0 → DialOk (newV s p now)) := fun h1 h2 => newV_ok s p now h1 h2 hok hnow
 have HBD : Hid (goodS s = true → (1 ≤ s.ring ∧ s.ring ≤ 4096) ∧ (1 ≤ s.win ∧ s.win ≤ 4096) ∧ (1 ≤ s.out ∧ s.out ≤ 4096)) := fun h => by have := goodS_bd h; omega
 have HDL : Hid (∀ W, Calls Tryz.prog 102 #[.int .i64 (ownT now), .int .i64 p.deadline] W fun e w' => e = .returned (dueBegin (ownT now) p.deadline).val ∧ Below W.heap.size W w') := fun W =>
  rBegin_any (ownT now) p.deadline W (by have := ownT_bd hnow.2; exact ⟨by omega, this.2⟩) hok.2.1
 have HCOME : Hid (DialOk (newV s p now) → ∀ W (v : Value), RefD w.heap.size w (newV s p now) v → Below w.heap.size w W → Calls Tryz.prog 103 #[v, .int .i64 0] W fun e w' => ∃ v', e = .returned v' ∧ RefU w.heap.size w W w' ((newV s p now).come 0) v' ∧ Below W.heap.size W w') := fun hk W v hv hb => rComeD hv hb hb.size 0 hk
 have HREF : Hid (goodS s = true → ∀ c1, RefD w.heap.size w (newV s p now) (.agg #[.int .i64 s.live, .int .i64 s.ring, .int .i64 s.win, .int .i64 s.out, .int .i64 s.quan, .int .i64 s.vis, .string p.name, .int .i64 p.deadline, .int .i64 p.jumps, .slice A p.ops.length c, .int .i64 0, .int .i64 0, .int .i64 0, .int .i64 (dueBegin (ownT now) p.deadline).til, .int .i64 (dueBegin (ownT now) p.deadline).lim, .int .i64 (dueBegin (ownT now) p.deadline).cut, .string ⟨#[]⟩, .int .i64 ((clampN s.win 4096 : Nat) : Int), .string ⟨#[]⟩, .int .i64 0, .slice none 0 0, .string ⟨#[]⟩, .string ⟨#[]⟩, .string ⟨#[]⟩, .int .i64 (withinI s.out 1 4096), .int .i64 c1, .bool false, .int .i64 (ownT now)])) := fun hg c1 => by
  have hbd := goodS_bd hg
  rw [show ((clampN s.win 4096 : Nat) : Int) = s.win by rw [clampN_is _ _ (by omega) (by omega)]; omega, show withinI s.out 1 4096 = s.out by unfold withinI; (repeat split) <;> omega]
  exact ⟨A, c, none, 0, 0, c1, rfl, hin, PatV.nil0 _ w⟩
 obtain ⟨gs, hgs⟩ : ∃ y, goodS s = y := ⟨_, rfl⟩
 obtain ⟨pw, hpw⟩ : ∃ y, (wrongM p).2 = y := ⟨_, rfl⟩
 obtain ⟨nv, hnv⟩ : ∃ y, newV s p now = y := ⟨_, rfl⟩
 obtain ⟨n, hn⟩ : ∃ y, p.ops.length = y := ⟨_, rfl⟩
 obtain ⟨nw, hnw⟩ : ∃ y, ownT now = y := ⟨_, rfl⟩
 have COW : Hid (∀ W, Calls Tryz.prog 47 #[.int .i64 now] W fun e w' => e = .returned (.int .i64 nw) ∧ W = w') := by rw [← hnw]; exact fun W => rOwn_any now W
 have CHN := hid (fun W => refNew_any s.win W)
 have CPN := hid (fun W => r20New_any s.out W)
 unfold refV at CHN
 unfold pr20 at CPN
 obtain ⟨cw, hcw⟩ : ∃ y : Int, ((clampN s.win 4096 : Nat) : Int) = y := ⟨_, rfl⟩
 obtain ⟨co, hco⟩ : ∃ y : Int, withinI s.out 1 4096 = y := ⟨_, rfl⟩
 have HE0 : Hid (rgT [] = ⟨#[]⟩) := rfl
 rw [hcw, HE0.out] at CHN
 rw [hco] at CPN
 rw [hcw, hco] at HREF
 rw [hnw] at HDL HREF
 rw [hgs] at HG HNV HBD HREF
 rw [hpw] at HP HNV
 rw [hnv] at HNV HCOME HREF
 rw [hn] at HP HREF
 rw [hgs, hpw, hnv, hn]
 obtain ⟨Q, hQ⟩ : ∃ Q : Ending → World → Prop, (fun e w' => RNewQ gs pw nv w e w') = Q := ⟨_, rfl⟩
 have HQ := hid hQ
 rw [hQ]
 clear hgs hpw hnv hn hin hok hnow hnw hcw hco HE0 hQ ha
 obtain ⟨lv, rg, wn, ou, qu, vi⟩ := s
 obtain ⟨nm, dl, jp, ops⟩ := p
 unfold SetV.val at HG ⊢
 unfold ProgV.val at HP ⊢
 simp only at HG HP HBD HDL CHN CPN HREF ⊢
 go_enter Tryz.func56, Tryz.ntmps56
 go_upto_region 1 with fail
 generalize hwz : ((w.alloc (.cells #[.int .i64 lv, .int .i64 rg, .int .i64 wn, .int .i64 ou, .int .i64 qu, .int .i64 vi] 23)).alloc (.cells #[.string nm, .int .i64 dl, .int .i64 jp, .slice A n c] 26)).alloc (.cells #[.int .i64 0, .int .i64 0, .int .i64 0, .int .i64 0, .int .i64 0, .int .i64 0, .string ⟨#[]⟩, .int .i64 0, .int .i64 0, .slice none 0 0, .int .i64 0, .int .i64 0, .int .i64 0, .int .i64 0, .int .i64 0, .int .i64 0, .string ⟨#[]⟩, .int .i64 0, .string ⟨#[]⟩, .int .i64 0, .slice none 0 0, .string ⟨#[]⟩, .string ⟨#[]⟩, .string ⟨#[]⟩, .int .i64 0, .int .i64 0, .bool false, .int .i64 0] 41) = wz
 obtain ⟨gs', gp, gr, hgs, hgp, hgr, HS, HPP, HR, HB, HNE⟩ := alloc3 hwz
 rw [hgr, hgp, hgs]
 clear hgr hgp hgs hwz
 obtain ⟨x0, x1, x2, x3, x4, x5⟩ := fact6 HS.out
 have xl := HS.out.lt
 go_wp2_with fail
 refine (HG.out _).mono ?_
 rintro en w1 ⟨rfl, hb⟩
 have HS1 := hid (HS.out.below hb HS.out.lt)
 have HP1 := hid (HPP.out.below hb HPP.out.lt)
 have HR1 := hid (HR.out.below hb HR.out.lt)
 have HB1 : Hid (Below w.heap.size w w1) := HB.out.trans (hb.mono HB.out.size)
 clear hb x0 x1 x2 x3 x4 x5 xl HS HPP HR HB HG
 cases gs
 ·go_wp2_with (refine wpList_store_row rfl 41 _ _ rfl gr #[.int .i64 0, .int .i64 0, .int .i64 0, .int .i64 0, .int .i64 0, .int .i64 0, .string ⟨#[]⟩, .int .i64 0, .int .i64 0, .slice none 0 0, .int .i64 0, .int .i64 0, .int .i64 0, .int .i64 0, .int .i64 0, .int .i64 0, .string ⟨#[]⟩, .int .i64 0, .string ⟨#[]⟩, .int .i64 0, .slice none 0 0, .string ⟨#[]⟩, .string ⟨#[]⟩, .string ⟨#[]⟩, .int .i64 0, .int .i64 0, .bool false, .int .i64 0] rfl rfl 41 _ HR1.out Tryz.sizeD rfl (by kernel_rfl) ?_)
  have hf := finRow0 (xs := [.int .i64 0, .int .i64 0, .int .i64 0, .int .i64 0, .int .i64 0, .int .i64 0, .string ⟨#[]⟩, .int .i64 0, .int .i64 0, .slice none 0 0, .int .i64 0, .int .i64 0, .int .i64 0, .int .i64 0, .int .i64 0, .int .i64 0, .string ⟨#[]⟩, .int .i64 0, .string ⟨#[]⟩, .int .i64 0, .slice none 0 0, .string ⟨#[]⟩, .string ⟨#[]⟩, .string ⟨#[]⟩, .int .i64 0, .int .i64 0, .bool false, .int .i64 0]) HR1.out HB1.out HNE.out Tryz.underlying41 rfl Tryz.sizeD
  refine bodyPost_ret (res_two (ResIs.cell rfl hf.1) (ResIs.tmp rfl) Tryz.results56) rfl ?_
  rw [← HQ.out]
  exact ⟨hf.2.1, _, 1, rfl, rfl, ⟨_, rfl, rfl, by kernel_rfl⟩, fun h => by cases h⟩
 obtain ⟨p0, p1, p2, p3⟩ := fact4 HP1.out
 have pl := HP1.out.lt
 have CP := hid (HP.out w1 HB1.out)
 obtain ⟨b, hb⟩ : ∃ y, decide (pw = 0) = y := ⟨_, rfl⟩
 have HBB := hid hb
 rw [hb] at CP
 clear hb HP
 go_wp2_with fail
 refine CP.out.mono ?_
 rintro en w2 ⟨rfl, hb⟩
 have HS2 := hid (HS1.out.below hb HS1.out.lt)
 have HP2 := hid (HP1.out.below hb HP1.out.lt)
 have HR2 := hid (HR1.out.below hb HR1.out.lt)
 have HB2 : Hid (Below w.heap.size w w2) := HB1.out.trans (hb.mono HB1.out.size)
 clear hb p0 p1 p2 p3 pl HS1 HP1 HR1 HB1 CP
 cases b
 ·have hpw : pw ≠ 0 := by simpa using HBB.out
  have HPW := hid hpw
  clear hpw HBB
  go_wp2_with (refine wpList_store_row rfl 41 _ _ rfl gr #[.int .i64 0, .int .i64 0, .int .i64 0, .int .i64 0, .int .i64 0, .int .i64 0, .string ⟨#[]⟩, .int .i64 0, .int .i64 0, .slice none 0 0, .int .i64 0, .int .i64 0, .int .i64 0, .int .i64 0, .int .i64 0, .int .i64 0, .string ⟨#[]⟩, .int .i64 0, .string ⟨#[]⟩, .int .i64 0, .slice none 0 0, .string ⟨#[]⟩, .string ⟨#[]⟩, .string ⟨#[]⟩, .int .i64 0, .int .i64 0, .bool false, .int .i64 0] rfl rfl 41 _ HR2.out Tryz.sizeD rfl (by kernel_rfl) ?_)
  have hf := finRow0 (xs := [.int .i64 0, .int .i64 0, .int .i64 0, .int .i64 0, .int .i64 0, .int .i64 0, .string ⟨#[]⟩, .int .i64 0, .int .i64 0, .slice none 0 0, .int .i64 0, .int .i64 0, .int .i64 0, .int .i64 0, .int .i64 0, .int .i64 0, .string ⟨#[]⟩, .int .i64 0, .string ⟨#[]⟩, .int .i64 0, .slice none 0 0, .string ⟨#[]⟩, .string ⟨#[]⟩, .string ⟨#[]⟩, .int .i64 0, .int .i64 0, .bool false, .int .i64 0]) HR2.out HB2.out HNE.out Tryz.underlying41 rfl Tryz.sizeD
  refine bodyPost_ret (res_two (ResIs.cell rfl hf.1) (ResIs.tmp rfl) Tryz.results56) rfl ?_
  rw [← HQ.out]
  exact ⟨hf.2.1, _, 2, rfl, by rw [if_neg (by decide), if_pos HPW.out], ⟨_, rfl, rfl, by kernel_rfl⟩, fun h => by cases h⟩
 have hpw : pw = 0 := by simpa using HBB.out
 subst hpw
 have HNOK := hid (HNV.out (by simp) (by simp))
 have HRF2 := hid (HREF.out (by simp))
 have HCM := hid (HCOME.out HNOK.out)
 clear HNV HBD HBB HREF HCOME
 go_upto_region 5 with fail
 have X0 : ∀ q : BW w2.heap.size w2, q.1.cell? ⟨gs', 0, none⟩ = some (.int .i64 lv) := fun q => q.cellAt HS2.out.lt (HS2.out.cell 0)
 have X1 : ∀ q : BW w2.heap.size w2, q.1.cell? ⟨gs', 1, none⟩ = some (.int .i64 rg) := fun q => q.cellAt HS2.out.lt (HS2.out.cell 1)
 have X2 : ∀ q : BW w2.heap.size w2, q.1.cell? ⟨gs', 2, none⟩ = some (.int .i64 wn) := fun q => q.cellAt HS2.out.lt (HS2.out.cell 2)
 have X3 : ∀ q : BW w2.heap.size w2, q.1.cell? ⟨gs', 3, none⟩ = some (.int .i64 ou) := fun q => q.cellAt HS2.out.lt (HS2.out.cell 3)
 have X4 : ∀ q : BW w2.heap.size w2, q.1.cell? ⟨gs', 4, none⟩ = some (.int .i64 qu) := fun q => q.cellAt HS2.out.lt (HS2.out.cell 4)
 have X5 : ∀ q : BW w2.heap.size w2, q.1.cell? ⟨gs', 5, none⟩ = some (.int .i64 vi) := fun q => q.cellAt HS2.out.lt (HS2.out.cell 5)
 have Q0 : ∀ q : BW w2.heap.size w2, q.1.cell? ⟨gp, 0, none⟩ = some (.string nm) := fun q => q.cellAt HP2.out.lt (HP2.out.cell 0)
 have Q1 : ∀ q : BW w2.heap.size w2, q.1.cell? ⟨gp, 1, none⟩ = some (.int .i64 dl) := fun q => q.cellAt HP2.out.lt (HP2.out.cell 1)
 have Q2 : ∀ q : BW w2.heap.size w2, q.1.cell? ⟨gp, 2, none⟩ = some (.int .i64 jp) := fun q => q.cellAt HP2.out.lt (HP2.out.cell 2)
 have Q3 : ∀ q : BW w2.heap.size w2, q.1.cell? ⟨gp, 3, none⟩ = some (.slice A n c) := fun q => q.cellAt HP2.out.lt (HP2.out.cell 3)
 refine wp_region_ordT w2.heap.size [12] (.val 0 (.val 1 (.val 2 (.val 4 (.val 5 (.val 7 (.val 8 (.two 3 (.two 6 (.two 9 (.val 10 (.op 11 (.op 12 (.nil)))) 11 (.op 9 (.val 10 (.op 12 (.nil))))) 11 (.op 6 (.op 9 (.val 10 (.op 12 (.nil)))))) 11 (.op 3 (.op 6 (.op 9 (.val 10 (.op 12 (.nil)))))))))))))) (by kernel_rfl) (by kernel_rfl) ?_
 obtain ⟨wc, hwc⟩ : ∃ W, w2.drewN 1 = W := ⟨_, rfl⟩
 have HBW : Hid (Below w2.heap.size w2 wc) := by rw [← hwc]; exact drewN_below w2 1
 rw [hwc]
 clear hwc
 iterate 7 ((first | refine wpOrdT_val rfl rfl ?_ | refine wpOrdT_load rfl rfl (inBW HBW.out) ?_); go_big_quiet_step (fail); refine wpQuiet_nil ?_)
 refine wpOrdT_two rfl rfl ?_ ?_
 focus
  have CQ := hid (COW.out wc)
  go_wp2_with fail
  refine CQ.out.mono ?_
  rintro en wc' ⟨rfl, rfl⟩
  clear CQ
  go_wp2_with fail
  refine KT.keep (inBW HBW.out) ?_
  refine wpOrdT_two rfl rfl ?_ ?_
  focus
   have CQ := hid (CHN.out wc)
   go_wp2_with fail
   refine CQ.out.mono ?_
   rintro en wc ⟨rfl, hb⟩
   have HBWn : Hid (Below w2.heap.size w2 wc) := HBW.out.trans (hb.mono HBW.out.size)
   try (have HGQ2 := hid (HGQ.out.below hb HGQ.out.lt); clear HGQ; have HGQ := HGQ2; clear HGQ2)
   clear HBW hb CQ
   have HBW := HBWn
   clear HBWn
   go_wp2_with fail
   refine KT.keep (inBW HBW.out) ?_
   refine wpOrdT_two rfl rfl ?_ ?_
   focus
    have CQ := hid (CPN.out wc)
    go_wp2_with fail
    refine CQ.out.mono ?_
    rintro en wc ⟨rfl, hb⟩
    have HBWn : Hid (Below w2.heap.size w2 wc) := HBW.out.trans (hb.mono HBW.out.size)
    try (have HGQ2 := hid (HGQ.out.below hb HGQ.out.lt); clear HGQ; have HGQ := HGQ2; clear HGQ2)
    clear HBW hb CQ
    have HBW := HBWn
    clear HBWn
    go_wp2_with fail
    refine KT.keep (inBW HBW.out) ?_
    refine wpOrdT_val rfl rfl ?_
    go_big_quiet_step (fail)
    refine wpQuiet_nil ?_
    refine wpOrdT_op rfl ?_
    go_wp2_with fail
    obtain ⟨wd, hwd⟩ : ∃ W, wc.alloc (.cells #[.int .i64 0, .int .i64 0, .int .i64 0, .int .i64 0, .int .i64 0, .int .i64 0, .string ⟨#[]⟩, .int .i64 0, .int .i64 0, .slice none 0 0, .int .i64 0, .int .i64 0, .int .i64 0, .int .i64 0, .int .i64 0, .int .i64 0, .string ⟨#[]⟩, .int .i64 0, .string ⟨#[]⟩, .int .i64 0, .slice none 0 0, .string ⟨#[]⟩, .string ⟨#[]⟩, .string ⟨#[]⟩, .int .i64 0, .int .i64 0, .bool false, .int .i64 0] 41) = W := ⟨_, rfl⟩
    obtain ⟨gq, hgq⟩ : ∃ y, wc.heap.size = y := ⟨_, rfl⟩
    have HGQ : Hid (Blk wd gq 41 #[.int .i64 0, .int .i64 0, .int .i64 0, .int .i64 0, .int .i64 0, .int .i64 0, .string ⟨#[]⟩, .int .i64 0, .int .i64 0, .slice none 0 0, .int .i64 0, .int .i64 0, .int .i64 0, .int .i64 0, .int .i64 0, .int .i64 0, .string ⟨#[]⟩, .int .i64 0, .string ⟨#[]⟩, .int .i64 0, .slice none 0 0, .string ⟨#[]⟩, .string ⟨#[]⟩, .string ⟨#[]⟩, .int .i64 0, .int .i64 0, .bool false, .int .i64 0]) := by rw [← hwd, ← hgq]; exact Blk.new wc _ _
    have HBWn : Hid (Below w2.heap.size w2 wd) := by rw [← hwd]; exact HBW.out.alloc HBW.out.size _
    have HGE : Hid (w2.heap.size ≤ gq) := by rw [← hgq]; exact HBW.out.size
    rw [hwd, hgq]
    clear HBW hwd hgq
    have HBW := HBWn
    clear HBWn
    obtain ⟨wc, hwc⟩ : ∃ y, y = wd := ⟨_, rfl⟩
    subst hwc
    refine KT.keep (inBW HBW.out) ?_
   rotate_left 1
   focus
    go_wp2_with fail
    obtain ⟨wd, hwd⟩ : ∃ W, wc.alloc (.cells #[.int .i64 0, .int .i64 0, .int .i64 0, .int .i64 0, .int .i64 0, .int .i64 0, .string ⟨#[]⟩, .int .i64 0, .int .i64 0, .slice none 0 0, .int .i64 0, .int .i64 0, .int .i64 0, .int .i64 0, .int .i64 0, .int .i64 0, .string ⟨#[]⟩, .int .i64 0, .string ⟨#[]⟩, .int .i64 0, .slice none 0 0, .string ⟨#[]⟩, .string ⟨#[]⟩, .string ⟨#[]⟩, .int .i64 0, .int .i64 0, .bool false, .int .i64 0] 41) = W := ⟨_, rfl⟩
    obtain ⟨gq, hgq⟩ : ∃ y, wc.heap.size = y := ⟨_, rfl⟩
    have HGQ : Hid (Blk wd gq 41 #[.int .i64 0, .int .i64 0, .int .i64 0, .int .i64 0, .int .i64 0, .int .i64 0, .string ⟨#[]⟩, .int .i64 0, .int .i64 0, .slice none 0 0, .int .i64 0, .int .i64 0, .int .i64 0, .int .i64 0, .int .i64 0, .int .i64 0, .string ⟨#[]⟩, .int .i64 0, .string ⟨#[]⟩, .int .i64 0, .slice none 0 0, .string ⟨#[]⟩, .string ⟨#[]⟩, .string ⟨#[]⟩, .int .i64 0, .int .i64 0, .bool false, .int .i64 0]) := by rw [← hwd, ← hgq]; exact Blk.new wc _ _
    have HBWn : Hid (Below w2.heap.size w2 wd) := by rw [← hwd]; exact HBW.out.alloc HBW.out.size _
    have HGE : Hid (w2.heap.size ≤ gq) := by rw [← hgq]; exact HBW.out.size
    rw [hwd, hgq]
    clear HBW hwd hgq
    have HBW := HBWn
    clear HBWn
    obtain ⟨wc, hwc⟩ : ∃ y, y = wd := ⟨_, rfl⟩
    subst hwc
    refine KT.keep (inBW HBW.out) ?_
    refine wpOrdT_op rfl ?_
    have CQ := hid (CPN.out wc)
    go_wp2_with fail
    refine CQ.out.mono ?_
    rintro en wc ⟨rfl, hb⟩
    have HBWn : Hid (Below w2.heap.size w2 wc) := HBW.out.trans (hb.mono HBW.out.size)
    try (have HGQ2 := hid (HGQ.out.below hb HGQ.out.lt); clear HGQ; have HGQ := HGQ2; clear HGQ2)
    clear HBW hb CQ
    have HBW := HBWn
    clear HBWn
    go_wp2_with fail
    refine KT.keep (inBW HBW.out) ?_
    refine wpOrdT_val rfl rfl ?_
    go_big_quiet_step (fail)
    refine wpQuiet_nil ?_
  rotate_left 2
  focus
   go_wp2_with fail
   obtain ⟨wd, hwd⟩ : ∃ W, wc.alloc (.cells #[.int .i64 0, .int .i64 0, .int .i64 0, .int .i64 0, .int .i64 0, .int .i64 0, .string ⟨#[]⟩, .int .i64 0, .int .i64 0, .slice none 0 0, .int .i64 0, .int .i64 0, .int .i64 0, .int .i64 0, .int .i64 0, .int .i64 0, .string ⟨#[]⟩, .int .i64 0, .string ⟨#[]⟩, .int .i64 0, .slice none 0 0, .string ⟨#[]⟩, .string ⟨#[]⟩, .string ⟨#[]⟩, .int .i64 0, .int .i64 0, .bool false, .int .i64 0] 41) = W := ⟨_, rfl⟩
   obtain ⟨gq, hgq⟩ : ∃ y, wc.heap.size = y := ⟨_, rfl⟩
   have HGQ : Hid (Blk wd gq 41 #[.int .i64 0, .int .i64 0, .int .i64 0, .int .i64 0, .int .i64 0, .int .i64 0, .string ⟨#[]⟩, .int .i64 0, .int .i64 0, .slice none 0 0, .int .i64 0, .int .i64 0, .int .i64 0, .int .i64 0, .int .i64 0, .int .i64 0, .string ⟨#[]⟩, .int .i64 0, .string ⟨#[]⟩, .int .i64 0, .slice none 0 0, .string ⟨#[]⟩, .string ⟨#[]⟩, .string ⟨#[]⟩, .int .i64 0, .int .i64 0, .bool false, .int .i64 0]) := by rw [← hwd, ← hgq]; exact Blk.new wc _ _
   have HBWn : Hid (Below w2.heap.size w2 wd) := by rw [← hwd]; exact HBW.out.alloc HBW.out.size _
   have HGE : Hid (w2.heap.size ≤ gq) := by rw [← hgq]; exact HBW.out.size
   rw [hwd, hgq]
   clear HBW hwd hgq
   have HBW := HBWn
   clear HBWn
   obtain ⟨wc, hwc⟩ : ∃ y, y = wd := ⟨_, rfl⟩
   subst hwc
   refine KT.keep (inBW HBW.out) ?_
   refine wpOrdT_op rfl ?_
   have CQ := hid (CHN.out wc)
   go_wp2_with fail
   refine CQ.out.mono ?_
   rintro en wc ⟨rfl, hb⟩
   have HBWn : Hid (Below w2.heap.size w2 wc) := HBW.out.trans (hb.mono HBW.out.size)
   try (have HGQ2 := hid (HGQ.out.below hb HGQ.out.lt); clear HGQ; have HGQ := HGQ2; clear HGQ2)
   clear HBW hb CQ
   have HBW := HBWn
   clear HBWn
   go_wp2_with fail
   refine KT.keep (inBW HBW.out) ?_
   refine wpOrdT_op rfl ?_
   have CQ := hid (CPN.out wc)
   go_wp2_with fail
   refine CQ.out.mono ?_
   rintro en wc ⟨rfl, hb⟩
   have HBWn : Hid (Below w2.heap.size w2 wc) := HBW.out.trans (hb.mono HBW.out.size)
   try (have HGQ2 := hid (HGQ.out.below hb HGQ.out.lt); clear HGQ; have HGQ := HGQ2; clear HGQ2)
   clear HBW hb CQ
   have HBW := HBWn
   clear HBWn
   go_wp2_with fail
   refine KT.keep (inBW HBW.out) ?_
   refine wpOrdT_val rfl rfl ?_
   go_big_quiet_step (fail)
   refine wpQuiet_nil ?_
 rotate_left 3
 focus
  go_wp2_with fail
  obtain ⟨wd, hwd⟩ : ∃ W, wc.alloc (.cells #[.int .i64 0, .int .i64 0, .int .i64 0, .int .i64 0, .int .i64 0, .int .i64 0, .string ⟨#[]⟩, .int .i64 0, .int .i64 0, .slice none 0 0, .int .i64 0, .int .i64 0, .int .i64 0, .int .i64 0, .int .i64 0, .int .i64 0, .string ⟨#[]⟩, .int .i64 0, .string ⟨#[]⟩, .int .i64 0, .slice none 0 0, .string ⟨#[]⟩, .string ⟨#[]⟩, .string ⟨#[]⟩, .int .i64 0, .int .i64 0, .bool false, .int .i64 0] 41) = W := ⟨_, rfl⟩
  obtain ⟨gq, hgq⟩ : ∃ y, wc.heap.size = y := ⟨_, rfl⟩
  have HGQ : Hid (Blk wd gq 41 #[.int .i64 0, .int .i64 0, .int .i64 0, .int .i64 0, .int .i64 0, .int .i64 0, .string ⟨#[]⟩, .int .i64 0, .int .i64 0, .slice none 0 0, .int .i64 0, .int .i64 0, .int .i64 0, .int .i64 0, .int .i64 0, .int .i64 0, .string ⟨#[]⟩, .int .i64 0, .string ⟨#[]⟩, .int .i64 0, .slice none 0 0, .string ⟨#[]⟩, .string ⟨#[]⟩, .string ⟨#[]⟩, .int .i64 0, .int .i64 0, .bool false, .int .i64 0]) := by rw [← hwd, ← hgq]; exact Blk.new wc _ _
  have HBWn : Hid (Below w2.heap.size w2 wd) := by rw [← hwd]; exact HBW.out.alloc HBW.out.size _
  have HGE : Hid (w2.heap.size ≤ gq) := by rw [← hgq]; exact HBW.out.size
  rw [hwd, hgq]
  clear HBW hwd hgq
  have HBW := HBWn
  clear HBWn
  obtain ⟨wc, hwc⟩ : ∃ y, y = wd := ⟨_, rfl⟩
  subst hwc
  refine KT.keep (inBW HBW.out) ?_
  refine wpOrdT_op rfl ?_
  have CQ := hid (COW.out wc)
  go_wp2_with fail
  refine CQ.out.mono ?_
  rintro en wc' ⟨rfl, rfl⟩
  clear CQ
  go_wp2_with fail
  refine KT.keep (inBW HBW.out) ?_
  refine wpOrdT_op rfl ?_
  have CQ := hid (CHN.out wc)
  go_wp2_with fail
  refine CQ.out.mono ?_
  rintro en wc ⟨rfl, hb⟩
  have HBWn : Hid (Below w2.heap.size w2 wc) := HBW.out.trans (hb.mono HBW.out.size)
  try (have HGQ2 := hid (HGQ.out.below hb HGQ.out.lt); clear HGQ; have HGQ := HGQ2; clear HGQ2)
  clear HBW hb CQ
  have HBW := HBWn
  clear HBWn
  go_wp2_with fail
  refine KT.keep (inBW HBW.out) ?_
  refine wpOrdT_op rfl ?_
  have CQ := hid (CPN.out wc)
  go_wp2_with fail
  refine CQ.out.mono ?_
  rintro en wc ⟨rfl, hb⟩
  have HBWn : Hid (Below w2.heap.size w2 wc) := HBW.out.trans (hb.mono HBW.out.size)
  try (have HGQ2 := hid (HGQ.out.below hb HGQ.out.lt); clear HGQ; have HGQ := HGQ2; clear HGQ2)
  clear HBW hb CQ
  have HBW := HBWn
  clear HBWn
  go_wp2_with fail
  refine KT.keep (inBW HBW.out) ?_
  refine wpOrdT_val rfl rfl ?_
  go_big_quiet_step (fail)
  refine wpQuiet_nil ?_
 all_goals
  refine wpOrdT_op rfl ?_
  go_wp2_with (refine wpList_store_row rfl 41 _ _ rfl gq #[.int .i64 lv, .int .i64 rg, .int .i64 wn, .int .i64 ou, .int .i64 qu, .int .i64 vi, .string nm, .int .i64 dl, .int .i64 jp, .slice A n c, .int .i64 0, .int .i64 0, .int .i64 0, .int .i64 0, .int .i64 0, .int .i64 0, .string ⟨#[]⟩, .int .i64 cw, .string ⟨#[]⟩, .int .i64 0, .slice none 0 0, .string ⟨#[]⟩, .string ⟨#[]⟩, .string ⟨#[]⟩, .int .i64 co, .int .i64 0, .bool false, .int .i64 nw] rfl rfl 41 _ HGQ.out Tryz.sizeD rfl (by kernel_rfl) ?_)
  refine KT.past rfl ?_
  refine wpOrdT_nil ?_
  obtain ⟨wd, hwd⟩ : ∃ W, wc.setRow gq #[.int .i64 lv, .int .i64 rg, .int .i64 wn, .int .i64 ou, .int .i64 qu, .int .i64 vi, .string nm, .int .i64 dl, .int .i64 jp, .slice A n c, .int .i64 0, .int .i64 0, .int .i64 0, .int .i64 0, .int .i64 0, .int .i64 0, .string ⟨#[]⟩, .int .i64 cw, .string ⟨#[]⟩, .int .i64 0, .slice none 0 0, .string ⟨#[]⟩, .string ⟨#[]⟩, .string ⟨#[]⟩, .int .i64 co, .int .i64 0, .bool false, .int .i64 nw] = W := ⟨_, rfl⟩
  have HQ6 : Hid (Blk wd gq 41 #[.int .i64 lv, .int .i64 rg, .int .i64 wn, .int .i64 ou, .int .i64 qu, .int .i64 vi, .string nm, .int .i64 dl, .int .i64 jp, .slice A n c, .int .i64 0, .int .i64 0, .int .i64 0, .int .i64 0, .int .i64 0, .int .i64 0, .string ⟨#[]⟩, .int .i64 cw, .string ⟨#[]⟩, .int .i64 0, .slice none 0 0, .string ⟨#[]⟩, .string ⟨#[]⟩, .string ⟨#[]⟩, .int .i64 co, .int .i64 0, .bool false, .int .i64 nw]) := by rw [← hwd]; exact HGQ.out.setRow _
  have HKD : Hid (Keep (fun k => k = gq) wc wd) := by rw [← hwd]; exact Keep.setRow (fun k => k = gq) _ gq _ rfl
  rw [hwd]
  have HBD : Hid (Below w.heap.size w wd) := HB2.out.trans ((HBW.out.mono HB2.out.size).trans (HKD.out.below (Nat.le_trans HB2.out.size HBW.out.size) (fun k (e : k = gq) => by rw [e]; exact Nat.le_trans HB2.out.size HGE.out)))
  have HPD := hid (HKD.out.blk (HP2.out.below HBW.out HP2.out.lt) (fun e => Nat.ne_of_lt (Nat.lt_of_lt_of_le HP2.out.lt HGE.out) e))
  have HRD := hid (HKD.out.blk (HR2.out.below HBW.out HR2.out.lt) (fun e => Nat.ne_of_lt (Nat.lt_of_lt_of_le HR2.out.lt HGE.out) e))
  have HNQ : Hid (gr ≠ gq ∧ w.heap.size ≤ gq) := ⟨fun e => Nat.ne_of_lt (Nat.lt_of_lt_of_le HR2.out.lt HGE.out) e, Nat.le_trans HB2.out.size HGE.out⟩
  clear hwd HKD HBW HGE HGQ HR2 HP2 HS2 HB2 X0 X1 X2 X3 X4 X5 Q0 Q1 Q2 Q3 CHN CPN COW
  have x27 : wd.cell? ⟨gq, 27, none⟩ = some (.int .i64 nw) := HQ6.out.cell 27
  have xl := HQ6.out.lt
  have p1 : wd.cell? ⟨gp, 1, none⟩ = some (.int .i64 dl) := HPD.out.cell 1
  have pl := HPD.out.lt
  obtain ⟨⟨t1, t2, t3⟩, ht⟩ : ∃ y, dueBegin nw dl = y := ⟨_, rfl⟩
  have CDL := hid (HDL.out wd)
  rw [ht] at CDL HRF2
  unfold DueV.val at CDL
  simp only at CDL HRF2
  clear ht HDL
  go_wp2_with fail
  refine CDL.out.mono ?_
  rintro en we ⟨rfl, hb⟩
  have HQE := hid (HQ6.out.below hb HQ6.out.lt)
  have HRE := hid (HRD.out.below hb HRD.out.lt)
  have HBE : Hid (Below w.heap.size w we) := HBD.out.trans (hb.mono HBD.out.size)
  clear hb x27 xl p1 pl CDL HQ6 HRD HBD HPD
  have y0 : we.cell? ⟨gq, 13, none⟩ = some (.int .i64 0) := HQE.out.cell 13
  have y1 : we.cell? ⟨gq, 14, none⟩ = some (.int .i64 0) := HQE.out.cell 14
  have y2 : we.cell? ⟨gq, 15, none⟩ = some (.int .i64 0) := HQE.out.cell 15
  have yf := frozAll HQE.out
  have yl := HQE.out.lt
  go_upto_region 7 with fail
  obtain ⟨wf, hwf⟩ : ∃ W, putL we gq 13 [.int .i64 t1, .int .i64 t2, .int .i64 t3] = W := ⟨_, rfl⟩
  have HQF : Hid (Blk wf gq 41 #[.int .i64 lv, .int .i64 rg, .int .i64 wn, .int .i64 ou, .int .i64 qu, .int .i64 vi, .string nm, .int .i64 dl, .int .i64 jp, .slice A n c, .int .i64 0, .int .i64 0, .int .i64 0, .int .i64 t1, .int .i64 t2, .int .i64 t3, .string ⟨#[]⟩, .int .i64 cw, .string ⟨#[]⟩, .int .i64 0, .slice none 0 0, .string ⟨#[]⟩, .string ⟨#[]⟩, .string ⟨#[]⟩, .int .i64 co, .int .i64 0, .bool false, .int .i64 nw]) := by rw [← hwf]; exact putL_to HQE.out 13 _ (Nat.le_of_ble_eq_true rfl) (by kernel_rfl)
  have HKF : Hid (Keep (fun k => k = gq) we wf) := by rw [← hwf]; exact putL_keep gq _ we 13
  have HRF := hid (HKF.out.blk HRE.out HNQ.out.1)
  have HBF : Hid (Below w.heap.size w wf) := HBE.out.trans (HKF.out.below HBE.out.size (fun k (e : k = gq) => by rw [e]; exact HNQ.out.2))
  simp only [putL, Nat.reduceAdd] at hwf
  rw [hwf]
  clear hwf HKF y0 y1 y2 yf yl HQE HRE HBE
  have CM := hid (HCM.out wf _ (HRF2.out 0) HBF.out)
  clear HCM HRF2
  go_wp2_with (refine wpList_load_mid rfl 41 _ rfl gq 0 rfl _ _ (Blk.range HQF.out) Tryz.underlying41 rfl Tryz.sizeD ?_)
  refine CM.out.mono ?_
  rintro en wg ⟨v', rfl, hrd, hb⟩
  obtain ⟨cs, rfl, hl, ha⟩ := hrd.now.agg
  have HRG := hid (HRF.out.below hb HRF.out.lt)
  have HBG : Hid (Below w.heap.size w wg) := HBF.out.trans (hb.mono HBF.out.size)
  have HRDG := hid hrd
  have HL := hid hl
  have HA := hid ha
  have HRL : Hid (gr < wf.heap.size) := HRF.out.lt
  clear hb hrd hl ha CM HQF HRF
  have HSZ1 : Hid ((Tryz.prog.info? 41).map (·.size) = some cs.toArray.size) := by rw [Hid, Tryz.sizeD, List.size_toArray, HL.out]
  have HSZ2 : Hid ((#[.int .i64 0, .int .i64 0, .int .i64 0, .int .i64 0, .int .i64 0, .int .i64 0, .string ⟨#[]⟩, .int .i64 0, .int .i64 0, .slice none 0 0, .int .i64 0, .int .i64 0, .int .i64 0, .int .i64 0, .int .i64 0, .int .i64 0, .string ⟨#[]⟩, .int .i64 0, .string ⟨#[]⟩, .int .i64 0, .slice none 0 0, .string ⟨#[]⟩, .string ⟨#[]⟩, .string ⟨#[]⟩, .int .i64 0, .int .i64 0, .bool false, .int .i64 0] : Array Value).size = cs.toArray.size) := by
   have h28 : cs.toArray.size = 28 := by rw [List.size_toArray, HL.out]
   rw [Hid, h28]; rfl
  go_wp2_with (refine wpList_store_row rfl 41 _ _ rfl gr cs.toArray rfl rfl 41 _ HRG.out HSZ1.out HSZ2.out HA.out ?_)
  have hf := finRow0 (xs := cs) HRG.out HBG.out HNE.out Tryz.underlying41 rfl (by rw [Tryz.sizeD, HL.out])
  refine bodyPost_ret (res_two (ResIs.cell rfl hf.1) (ResIs.tmp rfl) Tryz.results56) rfl ?_
  rw [← HQ.out]
  exact ⟨hf.2.1, _, 0, rfl, rfl, ⟨cs, rfl, HL.out, HA.out⟩, fun _ => (HRDG.out.use (w := w) (hf.2.2.mono (fun k _ (e : k = gr) => by rw [e]; exact ⟨HNE.out, HRL.out⟩)) (HBF.out.size)).now⟩
end Go.Proofs.YtpkkfdmhbbipoaaGreat
