/- The reference's dialogue, told by the plain one; it comes to an op; it begins. -/
import Derived.Test.YtpkkfdmhbbipoaaGreatRf
namespace Go.Proofs.YtpkkfdmhbbipoaaGreat
set_option maxRecDepth 20000
set_option maxHeartbeats 4000000
open Go.RowKit PopT
def Zmw (x : Zd) (A : Option Addr) (c : Nat) (Av : Option Addr) (nv cv : Nat) (tr : Int) : List Value := [x.s.live, x.s.ring, x.s.win, x.s.out, x.s.quan, x.s.vis, x.p.name, x.p.deadline, x.p.jumps, .slice A x.p.ops.length c, (x.loc : Int), (x.st : Int), (x.jumps : Int), x.due.til, x.due.lim, x.due.cut, .string (rgT x.R), x.s.win, .string (rgT x.S), (x.seen : Int), .slice Av nv cv, .string (x.pd.text.extract 0 x.pd.sent), x.pd.peek, .string (x.pd.text.extract x.pd.laid x.pd.text.size), x.s.out, tr, x.eof, x.now]
def Ui (b : Nat) (w : World) (x : Zd) (v : Value) : Prop := ∃ A c Av nv cv tr, v = .agg (Zmw x A c Av nv cv tr).toArray ∧ Ub w A x.p.ops ∧ Gy b w x.P (.slice Av nv cv)
theorem Ui.mono {b b2 : Nat} {w : World} {x : Zd} {v : Value} (h : Ui b w x v) (hb : b2 ≤ b) : Ui b2 w x v := by
 obtain ⟨A, c, Av, nv, cv, tr, h1, h2, h3⟩ := h;exact ⟨A, c, Av, nv, cv, tr, h1, h2, h3.keep (Za.refl (fun _ => False) _) hb (fun _ _ _ h => h)⟩
def Zef (cs : List Value) : Prop := ∀ u ∈ cs, (∀ v, u = .int .i64 v → v = 0) ∧ ∀ s, u = .string s → s = ⟨#[]⟩
theorem Zgg {w w' : World} {g : Nat} {t : TypeId} {zs : List Value} {A : Option Addr} {xs : List Value} (h : Rd w A xs) (hz : Blk w g t zs.toArray) (h0 : Zef zs) (hx : ∀ u, xs[0]? = some u → (∃ v, u = .int .i64 v ∧ v ≠ 0) ∨ ∃ s, u = .string s ∧ s ≠ ⟨#[]⟩) (hk : Za (fun k => k = g) w w') : Rd w' A xs := by
 cases xs with
 | nil => exact .inl rfl
 | cons u xs =>
  rcases h with h | ⟨b, off, hA, hlt, hc⟩
  ·cases h
  refine hk.rd (.inr ⟨b, off, hA, hlt, hc⟩) (fun a ha (e : a.block = g) => ?_);rw [hA] at ha;injection ha with ha
  subst ha;simp only at e;subst e;have h1 := hc 0 u rfl;rw [hz.cell] at h1
  have hm : u ∈ zs := by
   have h2 : zs[off + 0]? = some u := by simpa using h1
   exact List.mem_of_getElem? h2
  rcases hx u rfl with ⟨v, rfl, hv⟩ | ⟨s, rfl, hs⟩
  ·exact hv ((h0 _ hm).1 v rfl)
  ·exact hs ((h0 _ hm).2 s rfl)
theorem Zk6 {w w' : World} {g : Nat} {t : TypeId} {zs : List Value} {A : Option Addr} {l : List OpV} (h : Ub w A l) (hz : Blk w g t zs.toArray) (h0 : Zef zs) (hg : ∀ o ∈ l, o.kind ≠ 0 ∧ ∀ m ∈ o.arms, m.pat ≠ ⟨#[]⟩) (hk : Za (fun k => k = g) w w') : Ub w' A l := by
 obtain ⟨xs, rfl, h2, h3⟩ := h;refine ⟨xs, rfl, Zgg h2 hz h0 (fun u hu => ?_) hk, fun x hx => ?_⟩
 ·cases xs with
  | nil => cases hu
  | cons y xs =>
   simp only [Yl, List.flatMap_cons, OpV.cells, List.cons_append, List.getElem?_cons_zero, Option.some.injEq] at hu;exact .inl ⟨_, hu.symm, (hg y.1 af).1⟩
 ·obtain ⟨A2, c2, e, h4⟩ := h3 x hx
  refine ⟨A2, c2, e, Zgg h4 hz h0 (fun u hu => ?_) hk⟩;have hgx := (hg x.1 (List.mem_map_of_mem hx)).2;cases ha : x.1.arms with
  | nil => rw [ha] at hu; cases hu
  | cons m ms =>
   rw [ha] at hu hgx;simp only [Zz, List.flatMap_cons, Wy.cells, List.cons_append, List.getElem?_cons_zero, Option.some.injEq] at hu;exact .inr ⟨_, hu.symm, hgx m af⟩
theorem Ui.agg {b : Nat} {w : World} {x : Zd} {v : Value} (h : Ui b w x v) : ∃ cs : List Value, v = .agg cs.toArray ∧ cs.length = 28 ∧ cs.toArray.all (·.oneCell') = true := by
 obtain ⟨A, c, Av, nv, cv, tr, h1, -⟩ := h;exact ⟨_, h1, rfl, ab⟩
theorem Gy.nil0 (b : Nat) (w : World) : Gy b w [] (.slice none 0 0) := ⟨none, 0, [], rfl, World.ownsRow_nil _ _ _ _, Qa.nil _ _⟩
theorem Zon {p : Xq} (hg : (Xu p).2 = 0) (o : OpV) (ho : o ∈ p.ops) (hk : o.kind = 2) : (Uz (o.arms.map Wy.pat)).2.2 = 0 ∧ o.arms.length ≤ 8 ∧ ∀ m ∈ o.arms, m.pat.size ≤ 64 := by
 have he := Ji _ _ (Gh _ _ ((Wm _ hg).2.2 o ho) hk);exact N77
theorem pk0 (s : ByteArray) (m : Nat) : (Yw.mk m s 0 0).peek = ⟨#[]⟩ := Qf s 0
theorem ex0 (s : ByteArray) : s.extract 0 s.size = s := by
 apply ByteArray.ext;simp
theorem Vl {G : Nat → Prop} {w0 w W : World} (h : Za G w0 w) (hb : Below w.heap.size w W) : Za G w0 W := h.trans (Za.of_below hb : Za (fun _ => False) w W) (fun _ h => h.elim)
theorem Zga {G : Nat → Prop} {w0 w w' W : World} (h1 : Za G w0 w) (h2 : Below w.heap.size w w') (hk : Za (fun k => G k ∨ w0.heap.size ≤ k ∧ k < w.heap.size) w' W) : Za G w0 W := (Vl h1 h2).trans hk (fun _ h => h.imp_right And.left)
def Vr (b : Nat) (G : Nat → Prop) (w0 : World) (x : Zd) (v : Value) : Prop := (∀ k, G k → k < w0.heap.size) ∧ ∀ W, Za G w0 W → Ui b W x v
def Xz (b : Nat) (G : Nat → Prop) (w0 w w' : World) (x : Zd) (v : Value) : Prop := ∀ W', Za (fun k => G k ∨ w0.heap.size ≤ k ∧ k < w.heap.size) w' W' → Ui b W' x v
section
variable {b : Nat} {G : Nat → Prop} {w0 w1 w w2 w' W : World} {x y : Zd} {v v2 : Value}
theorem Xz.use (h : Xz b G w0 w1 w2 x v) (hk : Za (fun k => G k ∨ w0.heap.size ≤ k ∧ k < w1.heap.size) w2 w') (hs : w.heap.size ≤ w1.heap.size) : Xz b G w0 w w' x v :=
 fun W' hW => h W' (hk.trans (hW.mono (fun _ _ hk2 => hk2.imp_right (fun h2 => ⟨h2.1, Nat.lt_of_lt_of_le h2.2 hs⟩)) : Za (fun k => G k ∨ w0.heap.size ≤ k ∧ k < w1.heap.size) w' W') (fun _ => .inl))
theorem Xz.now (h : Xz b G w0 w w' x v) : Ui b w' x v := h w' (Za.refl _ _)
theorem Vr.at (h : Vr b G w x v) (hW : Za G w W) : Ui b W x v := h.2 W hW
theorem Vr.fixed (h : Vr b G w x v) : ∃ A c Av nv cv tr, v = .agg (Zmw x A c Av nv cv tr).toArray ∧ ∀ W, Za G w W → Ub W A x.p.ops ∧ Gy b W x.P (.slice Av nv cv) := by
 obtain ⟨A, c, Av, nv, cv, tr, rfl, -, -⟩ := h.2 w (Za.refl _ _);refine ⟨A, c, Av, nv, cv, tr, rfl, fun W hW => ?_⟩;obtain ⟨A2, c2, Av2, nv2, cv2, tr2, e, h1, h2⟩ := h.2 W hW;simp only [Zmw, Value.agg.injEq, List.toArray_eq_toArray_eq, List.cons.injEq, Value.slice.injEq, true_and, and_true] at e;obtain ⟨⟨rfl, rfl⟩, ⟨rfl, rfl, rfl⟩, -⟩ := e;exact ⟨h1, h2⟩
theorem Vr.up (h : Vr b G w x v) (hk : Za G w w') : Vr b (Fup G w w') w' x v := by
 refine ⟨?_, fun W hW => h.2 W (hk.trans hW ?_)⟩
 ·rintro k (h2 | h2)
  ·exact Nat.lt_of_lt_of_le (h.1 k h2) hk.size
  ·exact h2.2
 ·rintro k (h2 | h2)
  ·exact .inl h2
  ·exact .inr h2.1
end
theorem Zkb {b : Nat} {G : Nat → Prop} {w0 w : World} {x : Zd} {v : Value} (h : Vr b G w0 x v) (hw : Za G w0 w) (hbw : b ≤ w.heap.size) (tn : Nat) (hok : Yq x) :
  Calls Tryz.prog 103 #[v, (tn : Int)] w fun e w' => ∃ v', e = .returned v' ∧ Xz b G w0 w w' (x.come tn) v' ∧ Below w.heap.size w w' := by
 obtain ⟨A, c, Av, nv, cv, tr, rfl, h23⟩ := h.fixed;have hwin := Vw hok.good
 have H := Zrb x.s.live x.s.ring x.s.win x.s.out x.s.quan x.s.vis x.p.deadline x.p.jumps (x.loc : Int) (x.st : Int) (x.jumps : Int) x.due.til x.due.lim x.due.cut x.s.win (x.seen : Int) x.s.out tr x.now x.p.name (rgT x.R) (rgT x.S) (x.pd.text.extract 0 x.pd.sent) x.pd.peek (x.pd.text.extract x.pd.laid x.pd.text.size) A Av x.p.ops.length c nv cv x.eof
  x.p.ops tn w (h23 w hw).1 rfl ⟨by have := hok.now; omega, hok.now.2⟩ (fun o ho => (hok.pok.2.2.2.2 o ho).2.2.1) (Zon hok.pgood) x.S x.seen x.s.win.toNat rfl rfl aa
 refine H.mono ?_;rintro e w' ⟨hb, d1', se', V', dn', ot', rs', tr', rfl, hc⟩;refine ⟨_, rfl, ?_, hb⟩;intro W' hW;obtain ⟨hin, hp0⟩ := h23 W' (Zga hw hb hW);show Ui b W' (x.goes tn).enters _;have hop : (x.goes tn).op = x.p.ops.getD tn Ms := rfl;rcases hc with ⟨hk, rfl, rfl, rfl, rfl, rfl, rfl⟩ | ⟨hk, rfl, rfl, hp, rfl, rfl, rfl, rfl⟩ | ⟨hk, rfl, rfl, rfl, rfl, rfl, rfl, rfl⟩ | ⟨hk1, hk2, hk4, rfl, rfl, rfl, rfl, rfl, rfl, rfl⟩
 ·have he : (x.goes tn).enters = (x.goes tn).writes := by unfold Zd.enters; rw [hop]; exact if_pos hk
  rw [he];refine ⟨A, c, Av, nv, cv, tr', ?_, hin, hp0⟩;show _ = Value.agg (Zmw ⟨x.s, x.p, tn, x.st, x.jumps, x.due.rest, x.R, x.S, x.seen, x.P, ⟨x.pd.out, (x.p.ops.getD tn Ms).text, 0, 0⟩, x.eof, x.now⟩ A c Av nv cv tr').toArray;unfold Zmw;simp only [pk0, Qf, ex0];rfl
 ·obtain ⟨Ap, cp, vs, rfl, hp1, hp2⟩ := hp
  have he : (x.goes tn).enters = (x.goes tn).hears.waits := by unfold Zd.enters; rw [hop]; rw [if_neg jz, if_pos hk]
  rw [he];exact ⟨A, c, Ap, _, cp, tr', rfl, hin, Gy.keep ⟨Ap, cp, vs, rfl, hp1, hp2⟩ hW hbw (fun k h1 _ h3 => h3.elim (fun h4 => Nat.lt_irrefl _ (Nat.lt_of_lt_of_le (h.1 k h4) (Nat.le_trans hw.size h1))) (fun h4 => Nat.lt_irrefl _ (Nat.lt_of_lt_of_le h4.2 h1)))⟩
 ·have he : (x.goes tn).enters = (x.goes tn).waits := by unfold Zd.enters; rw [hop]; rw [if_neg jz, if_neg jz, if_pos hk]
  rw [he];exact ⟨A, c, Av, nv, cv, tr', rfl, hin, hp0⟩
 ·have he : (x.goes tn).enters = x.goes tn := by unfold Zd.enters; rw [hop]; rw [if_neg hk1, if_neg hk2, if_neg hk4]
  rw [he];exact ⟨A, c, Av, nv, cv, tr', rfl, hin, hp0⟩
theorem Zaw {P : Program} {w we : World} {gr : Nat} {t : TypeId} {xs : List Value} {z : Array Value} {d : TypeDesc} (hr : Blk we gr t z) (hb : Below w.heap.size w we) (hg : w.heap.size ≤ gr)
  (hu : P.underlying t = some d) (hdr : d.isRow = true) (hi : (P.info? t).map (·.size) = some xs.length) :
  (loadVar t ⟨gr, 0, none⟩).run P (we.setRow gr xs.toArray) = .ok (.agg xs.toArray) (we.setRow gr xs.toArray) ∧ Below w.heap.size w (we.setRow gr xs.toArray) ∧ Za (fun k => k = gr) we (we.setRow gr xs.toArray) :=
 ⟨run_loadVar_mid (P := P) _ gr 0 t xs d (Blk.range (hr.setRow _)) hu hdr hi, hb.trans ((Za.setRow (fun k => k = gr) _ gr _ rfl).below hb.size (fun k (e : k = gr) => by rw [e]; exact hg)), Za.setRow (fun k => k = gr) _ gr _ rfl⟩
def Zr0 (G : Nat → Prop) (gs : Bool) (pw : Nat) (nv : Zd) (w : World) (e : Ending) (w' : World) : Prop := Below w.heap.size w w' ∧ ∃ v : Value, ∃ n : Nat, e = .returned (.tuple #[v, (n : Int)]) ∧ n = (if gs = false then 1 else if pw ≠ 0 then 2 else 0) ∧ (∃ cs : List Value, v = .agg cs.toArray ∧ cs.length = 28 ∧ cs.toArray.all (·.oneCell') = true) ∧ (n = 0 → Xz w.heap.size G w w w' (nv.come 0) v)
theorem Zsm {w wz : World} {c1 c2 c3 : Array Value} {t1 t2 t3 : TypeId} (h : ((w.alloc (.cells c1 t1)).alloc (.cells c2 t2)).alloc (.cells c3 t3) = wz) : ∃ gs gp gr, w.heap.size = gs ∧ w.heap.size + 1 = gp ∧ w.heap.size + 2 = gr ∧ Hid (Blk wz gs t1 c1) ∧ Hid (Blk wz gp t2 c2) ∧ Hid (Blk wz gr t3 c3) ∧ Hid (Below w.heap.size w wz) ∧ Hid (w.heap.size ≤ gr) := by
 subst h;exact ⟨_, _, _, rfl, rfl, rfl, ((Blk.new w _ _).alloc _).alloc _, (Ml _ _ _ _).alloc _, Zmx _ _ _ _ _, Jf _ _ _ _, by show w.heap.size ≤ w.heap.size + 2; omega⟩
theorem N137{P:Prop}(h:P:=by
 have h28 : cs.toArray.size = 28 := by rw [List.size_toArray, HL.out]
 rw [Hid, h28]; rfl):P:=h
theorem Zsy (s : Uu) (p : Xq) (A : Option Addr) (c : Nat) (now : Int) (G : Nat → Prop) (w : World) (hG : ∀ k, G k → k < w.heap.size) (hin : ∀ W, Za G w W → Ub W A p.ops) (hok : Kj p) (hnow : I6 now) (ha : ∀ o ∈ p.ops, ∀ a ∈ o.arms, a.pat.size ≤ 1000000) :
  Calls Tryz.prog 56 #[s.val, p.val (.slice A p.ops.length c), now] w fun e w' => Zr0 G (Wr s) (Xu p).2 (Qi s p now) w e w' := by
 have HG : Hid (∀ W, Calls Tryz.prog 60 #[s.val] W fun e w' => e = .returned (.bool (Wr s)) ∧ Below W.heap.size W w') := fun W => Zb5 s W;have HP : Hid (∀ W, Below w.heap.size w W → Calls Tryz.prog 72 #[p.val (.slice A p.ops.length c)] W fun e w' => e = .returned (.bool (decide ((Xu p).2 = 0))) ∧ Below W.heap.size W w') := fun W hb => Znh p A c W (hin W (Za.of_below hb)) hok ha;have HNV : Hid (Wr s = true → (Xu p).2 = 0 → Yq (Qi s p now)) := fun h1 h2 => Zeg s p now h1 h2 hok hnow;have HBD : Hid (Wr s = true → (1 ≤ s.ring ∧ s.ring ≤ 4096) ∧ (1 ≤ s.win ∧ s.win ≤ 4096) ∧ (1 ≤ s.out ∧ s.out ≤ 4096)) := fun h => by have := Vw h; omega
 have HDL : Hid (∀ W, Calls Tryz.prog 102 #[.int .i64 (Yx now), p.deadline] W fun e w' => e = .returned (Un (Yx now) p.deadline).val ∧ Below W.heap.size W w') := fun W =>
  Zkw (Yx now) p.deadline W (by have := Jx hnow.2; exact ⟨aa, this.2⟩) hok.2.1
 have HCOME : Hid (Yq (Qi s p now) → ∀ W (v : Value), Vr w.heap.size G w (Qi s p now) v → Below w.heap.size w W → Calls Tryz.prog 103 #[v, .int .i64 0] W fun e w' => ∃ v', e = .returned v' ∧ Xz w.heap.size G w W w' ((Qi s p now).come 0) v' ∧ Below W.heap.size W w') := fun hk W v hv hb => Zkb hv (Za.of_below hb) hb.size 0 hk
 have HREF : Hid (Wr s = true → ∀ c1, Vr w.heap.size G w (Qi s p now) (.agg #[s.live, s.ring, s.win, s.out, s.quan, s.vis, p.name, p.deadline, p.jumps, .slice A p.ops.length c, .int .i64 0, .int .i64 0, .int .i64 0, .int .i64 (Un (Yx now) p.deadline).til, .int .i64 (Un (Yx now) p.deadline).lim, .int .i64 (Un (Yx now) p.deadline).cut, .string ⟨#[]⟩, ((Wa s.win 4096 : Nat) : Int), .string ⟨#[]⟩, .int .i64 0, .slice none 0 0, .string ⟨#[]⟩, .string ⟨#[]⟩, .string ⟨#[]⟩, .int .i64 (Vf s.out 1 4096), .int .i64 c1, .bool false, .int .i64 (Yx now)])) := fun hg c1 => by
  have hbd := Vw hg;rw [show ((Wa s.win 4096 : Nat) : Int) = s.win by rw [Zbc _ _ aa aa]; omega, show Vf s.out 1 4096 = s.out by unfold Vf; (repeat split) <;> omega];exact ⟨hG, fun W hW => ⟨A, c, none, 0, 0, c1, rfl, hin W hW, Gy.nil0 _ W⟩⟩
 obtain ⟨gs, hgs⟩ := nE (Wr s);obtain ⟨pw, hpw⟩ := nE ((Xu p).2);obtain ⟨nv, hnv⟩ := nE (Qi s p now);obtain ⟨n, hn⟩ := nE (p.ops.length);obtain ⟨nw, hnw⟩ := nE (Yx now);have COW : Hid (∀ W, Calls Tryz.prog 47 #[now] W fun e w' => e = .returned nw ∧ W = w') := hnw ▸ fun W => Jg now W;have CHN := hid (fun W => Ze7 s.win W);have CPN := hid (fun W => Ze9 s.out W);unfold Mn at CHN;unfold pr20 at CPN;obtain ⟨cw, hcw⟩ : ∃ y : Int, ((Wa s.win 4096 : Nat) : Int) = y := ⟨_, rfl⟩;obtain ⟨co, hco⟩ : ∃ y : Int, Vf s.out 1 4096 = y := ⟨_, rfl⟩;have HE0 : Hid (rgT [] = ⟨#[]⟩) := rfl;rw [hcw, HE0.out] at CHN;rw [hco] at CPN;rw [hcw, hco] at HREF;rw [hnw] at HDL HREF;rw [hgs] at HG HNV HBD HREF;rw [hpw] at HP HNV;rw [hnv] at HNV HCOME HREF;rw [hn] at HP HREF;rw [hgs, hpw, hnv, hn];obtain ⟨Q, hQ⟩ : ∃ Q : Ending → World → Prop, (fun e w' => Zr0 G gs pw nv w e w') = Q := ⟨_, rfl⟩;have HQ := hid hQ;rw [hQ];clear hgs hpw hnv hn hin hG hok hnow hnw hcw hco HE0 hQ ha;obtain ⟨lv, rg, wn, ou, qu, vi⟩ := s;obtain ⟨nm, dl, jp, ops⟩ := p;unfold Uu.val at HG ⊢;unfold Xq.val at HP ⊢;simp only at HG HP HBD HDL CHN CPN HREF ⊢;go_enter Tryz.func56, Tryz.ntmps56;go_upto_region 1 with fail;generalize hwz : ((w.alloc (.cells #[lv, rg, wn, ou, qu, vi] 23)).alloc (.cells #[nm, dl, jp, .slice A n c] 26)).alloc (.cells zd 41) = wz;obtain ⟨gs', gp, gr, hgs, hgp, hgr, HS, HPP, HR, HB, HNE⟩ := Zsm hwz;rw [hgr, hgp, hgs];clear hgr hgp hgs hwz;obtain ⟨x0, x1, x2, x3, x4, x5⟩ := Yg HS.out;have xl := HS.lt;go_wp2_with fail;refine (HG.out _).mono ?_;rintro en w1 ⟨rfl, hb⟩;have HS1 := bb HS hb;have HP1 := bb HPP hb;have HR1 := bb HR hb;have HB1 := bt HB hb;clear hb x0 x1 x2 x3 x4 x5 xl HS HPP HR HB HG;cases gs
 ·go_wp2_with (refine wpList_store_row rfl 41 _ _ rfl gr #[.int .i64 0, .int .i64 0, .int .i64 0, .int .i64 0, .int .i64 0, .int .i64 0, .string ⟨#[]⟩, .int .i64 0, .int .i64 0, .slice none 0 0, .int .i64 0, .int .i64 0, .int .i64 0, .int .i64 0, .int .i64 0, .int .i64 0, .string ⟨#[]⟩, .int .i64 0, .string ⟨#[]⟩, .int .i64 0, .slice none 0 0, .string ⟨#[]⟩, .string ⟨#[]⟩, .string ⟨#[]⟩, .int .i64 0, .int .i64 0, .bool false, .int .i64 0] rfl rfl 41 _ HR1.out Zh rfl ab ?_)
  have hf := Zaw (xs := [.int .i64 0, .int .i64 0, .int .i64 0, .int .i64 0, .int .i64 0, .int .i64 0, .string ⟨#[]⟩, .int .i64 0, .int .i64 0, .slice none 0 0, .int .i64 0, .int .i64 0, .int .i64 0, .int .i64 0, .int .i64 0, .int .i64 0, .string ⟨#[]⟩, .int .i64 0, .string ⟨#[]⟩, .int .i64 0, .slice none 0 0, .string ⟨#[]⟩, .string ⟨#[]⟩, .string ⟨#[]⟩, .int .i64 0, .int .i64 0, .bool false, .int .i64 0]) HR1.out HB1.out HNE.out Tryz.underlying41 rfl Zh;refine bodyPost_ret (Ww (Yb.cell rfl hf.1) (Yb.tmp rfl) Tryz.results56) rfl ?_;rw [← HQ.out];exact ⟨hf.2.1, _, 1, rfl, rfl, ⟨_, rfl, rfl, ab⟩, fun h => fg⟩
 obtain ⟨p0, p1, p2, p3⟩ := Wf HP1.out;have pl := HP1.lt;have CP := hid (HP.out w1 HB1.out);obtain ⟨b, hb⟩ := nE (decide (pw = 0));have HBB := hid hb;rw [hb] at CP;clear hb HP;go_wp2_with fail;refine CP.mono ?_;rintro en w2 ⟨rfl, hb⟩;have HS2 := bb HS1 hb;have HP2 := bb HP1 hb;have HR2 := bb HR1 hb;have HB2 := bt HB1 hb;clear hb p0 p1 p2 p3 pl HS1 HP1 HR1 HB1 CP;cases b
 ·have hpw : pw ≠ 0 := by simpa using HBB.out
  have HPW := hid hpw;clear hpw HBB;go_wp2_with (refine wpList_store_row rfl 41 _ _ rfl gr #[.int .i64 0, .int .i64 0, .int .i64 0, .int .i64 0, .int .i64 0, .int .i64 0, .string ⟨#[]⟩, .int .i64 0, .int .i64 0, .slice none 0 0, .int .i64 0, .int .i64 0, .int .i64 0, .int .i64 0, .int .i64 0, .int .i64 0, .string ⟨#[]⟩, .int .i64 0, .string ⟨#[]⟩, .int .i64 0, .slice none 0 0, .string ⟨#[]⟩, .string ⟨#[]⟩, .string ⟨#[]⟩, .int .i64 0, .int .i64 0, .bool false, .int .i64 0] rfl rfl 41 _ HR2.out Zh rfl ab ?_);have hf := Zaw (xs := [.int .i64 0, .int .i64 0, .int .i64 0, .int .i64 0, .int .i64 0, .int .i64 0, .string ⟨#[]⟩, .int .i64 0, .int .i64 0, .slice none 0 0, .int .i64 0, .int .i64 0, .int .i64 0, .int .i64 0, .int .i64 0, .int .i64 0, .string ⟨#[]⟩, .int .i64 0, .string ⟨#[]⟩, .int .i64 0, .slice none 0 0, .string ⟨#[]⟩, .string ⟨#[]⟩, .string ⟨#[]⟩, .int .i64 0, .int .i64 0, .bool false, .int .i64 0]) HR2.out HB2.out HNE.out Tryz.underlying41 rfl Zh;refine bodyPost_ret (Ww (Yb.cell rfl hf.1) (Yb.tmp rfl) Tryz.results56) rfl ?_;rw [← HQ.out];exact ⟨hf.2.1, _, 2, rfl, by rw [if_neg ac, if_pos HPW.out], ⟨_, rfl, rfl, ab⟩, fun h => fg⟩
 have hpw : pw = 0 := by simpa using HBB.out
 subst hpw;have HNOK := hid (HNV.out af af);have HRF2 := hid (HREF.out af);have HCM := hid (HCOME.out HNOK.out);clear HNV HBD HBB HREF HCOME;go_upto_region 5 with fail;have X0 := tA HS2.out 0 lv rfl;have X1 := tA HS2.out 1 rg rfl;have X2 := tA HS2.out 2 wn rfl;have X3 := tA HS2.out 3 ou rfl;have X4 := tA HS2.out 4 qu rfl;have X5 := tA HS2.out 5 vi rfl;have Q0 := tA HP2.out 0 nm rfl;have Q1 := tA HP2.out 1 dl rfl;have Q2 := tA HP2.out 2 jp rfl;have Q3 := tA HP2.out 3 (.slice A n c) rfl;refine Zg w2.heap.size [12] (.val 0 (.val 1 (.val 2 (.val 4 (.val 5 (.val 7 (.val 8 (.two 3 (.two 6 (.two 9 (.val 10 (.op 11 (.op 12 (.nil)))) 11 (.op 9 (.val 10 (.op 12 (.nil))))) 11 (.op 6 (.op 9 (.val 10 (.op 12 (.nil)))))) 11 (.op 3 (.op 6 (.op 9 (.val 10 (.op 12 (.nil)))))))))))))) ab ab ?_;obtain ⟨wc, hwc, HBW⟩ := dw w2;rw [hwc];clear hwc
 iterate 7 ((first | refine Zc rfl rfl ?_ | refine Zq rfl rfl (Yz HBW.out) ?_); go_big_quiet_step (fail); refine wpQuiet_nil ?_)
 refine Wj rfl rfl ?_ ?_
 focus
  have CQ := hid (COW.out wc);go_wp2_with fail;refine CQ.mono ?_;rintro en wc' ⟨rfl, rfl⟩;clear CQ;go_wp2_with fail;refine KT.keep (Yz HBW.out) ?_;refine Wj rfl rfl ?_ ?_
  focus
   have CQ := hid (CHN.out wc);go_wp2_with fail;refine CQ.mono ?_;rintro en wc ⟨rfl, hb⟩;have HBWn : Hid (Below w2.heap.size w2 wc) := HBW.trans (hb.mono HBW.size)
   try (have HGQ2 := bb HGQ hb; clear HGQ; have HGQ := HGQ2; clear HGQ2)
   clear HBW hb CQ;have HBW := HBWn;clear HBWn;go_wp2_with fail;refine KT.keep (Yz HBW.out) ?_;refine Wj rfl rfl ?_ ?_
   focus
    have CQ := hid (CPN.out wc);go_wp2_with fail;refine CQ.mono ?_;rintro en wc ⟨rfl, hb⟩;have HBWn : Hid (Below w2.heap.size w2 wc) := HBW.trans (hb.mono HBW.size)
    try (have HGQ2 := bb HGQ hb; clear HGQ; have HGQ := HGQ2; clear HGQ2)
    clear HBW hb CQ;have HBW := HBWn;clear HBWn;go_wp2_with fail;refine KT.keep (Yz HBW.out) ?_;refine Zc rfl rfl ?_
    go_big_quiet_step (fail)
    refine wpQuiet_nil ?_;refine Ze rfl ?_;go_wp2_with fail;obtain ⟨wd, hwd⟩ := nE (wc.alloc (.cells zd 41));obtain ⟨gq, hgq⟩ := nE (wc.heap.size);have HGQ : Hid (Blk wd gq 41 zd) := bh
    have HBWn : Hid (Below w2.heap.size w2 wd) := hwd ▸ HBW.alloc HBW.size _;have HGE : Hid (w2.heap.size ≤ gq) := hgq ▸ HBW.size;rw [hwd, hgq];clear HBW hwd hgq;have HBW := HBWn;clear HBWn;obtain ⟨wc, hwc⟩ := mE wd;subst hwc;refine KT.keep (Yz HBW.out) ?_
   rotate_left 1
   focus
    go_wp2_with fail;obtain ⟨wd, hwd⟩ := nE (wc.alloc (.cells zd 41));obtain ⟨gq, hgq⟩ := nE (wc.heap.size);have HGQ : Hid (Blk wd gq 41 zd) := bh
    have HBWn : Hid (Below w2.heap.size w2 wd) := hwd ▸ HBW.alloc HBW.size _;have HGE : Hid (w2.heap.size ≤ gq) := hgq ▸ HBW.size;rw [hwd, hgq];clear HBW hwd hgq;have HBW := HBWn;clear HBWn;obtain ⟨wc, hwc⟩ := mE wd;subst hwc;refine KT.keep (Yz HBW.out) ?_;refine Ze rfl ?_;have CQ := hid (CPN.out wc);go_wp2_with fail;refine CQ.mono ?_;rintro en wc ⟨rfl, hb⟩;have HBWn : Hid (Below w2.heap.size w2 wc) := HBW.trans (hb.mono HBW.size)
    try (have HGQ2 := bb HGQ hb; clear HGQ; have HGQ := HGQ2; clear HGQ2)
    clear HBW hb CQ;have HBW := HBWn;clear HBWn;go_wp2_with fail;refine KT.keep (Yz HBW.out) ?_;refine Zc rfl rfl ?_
    go_big_quiet_step (fail)
    refine wpQuiet_nil ?_
  rotate_left 2
  focus
   go_wp2_with fail;obtain ⟨wd, hwd⟩ := nE (wc.alloc (.cells zd 41));obtain ⟨gq, hgq⟩ := nE (wc.heap.size);have HGQ : Hid (Blk wd gq 41 zd) := bh
   have HBWn : Hid (Below w2.heap.size w2 wd) := hwd ▸ HBW.alloc HBW.size _;have HGE : Hid (w2.heap.size ≤ gq) := hgq ▸ HBW.size;rw [hwd, hgq];clear HBW hwd hgq;have HBW := HBWn;clear HBWn;obtain ⟨wc, hwc⟩ := mE wd;subst hwc;refine KT.keep (Yz HBW.out) ?_;refine Ze rfl ?_;have CQ := hid (CHN.out wc);go_wp2_with fail;refine CQ.mono ?_;rintro en wc ⟨rfl, hb⟩;have HBWn : Hid (Below w2.heap.size w2 wc) := HBW.trans (hb.mono HBW.size)
   try (have HGQ2 := bb HGQ hb; clear HGQ; have HGQ := HGQ2; clear HGQ2)
   clear HBW hb CQ;have HBW := HBWn;clear HBWn;go_wp2_with fail;refine KT.keep (Yz HBW.out) ?_;refine Ze rfl ?_;have CQ := hid (CPN.out wc);go_wp2_with fail;refine CQ.mono ?_;rintro en wc ⟨rfl, hb⟩;have HBWn : Hid (Below w2.heap.size w2 wc) := HBW.trans (hb.mono HBW.size)
   try (have HGQ2 := bb HGQ hb; clear HGQ; have HGQ := HGQ2; clear HGQ2)
   clear HBW hb CQ;have HBW := HBWn;clear HBWn;go_wp2_with fail;refine KT.keep (Yz HBW.out) ?_;refine Zc rfl rfl ?_
   go_big_quiet_step (fail)
   refine wpQuiet_nil ?_
 rotate_left 3
 focus
  go_wp2_with fail;obtain ⟨wd, hwd⟩ := nE (wc.alloc (.cells zd 41));obtain ⟨gq, hgq⟩ := nE (wc.heap.size);have HGQ : Hid (Blk wd gq 41 zd) := bh
  have HBWn : Hid (Below w2.heap.size w2 wd) := hwd ▸ HBW.alloc HBW.size _;have HGE : Hid (w2.heap.size ≤ gq) := hgq ▸ HBW.size;rw [hwd, hgq];clear HBW hwd hgq;have HBW := HBWn;clear HBWn;obtain ⟨wc, hwc⟩ := mE wd;subst hwc;refine KT.keep (Yz HBW.out) ?_;refine Ze rfl ?_;have CQ := hid (COW.out wc);go_wp2_with fail;refine CQ.mono ?_;rintro en wc' ⟨rfl, rfl⟩;clear CQ;go_wp2_with fail;refine KT.keep (Yz HBW.out) ?_;refine Ze rfl ?_;have CQ := hid (CHN.out wc);go_wp2_with fail;refine CQ.mono ?_;rintro en wc ⟨rfl, hb⟩;have HBWn : Hid (Below w2.heap.size w2 wc) := HBW.trans (hb.mono HBW.size)
  try (have HGQ2 := bb HGQ hb; clear HGQ; have HGQ := HGQ2; clear HGQ2)
  clear HBW hb CQ;have HBW := HBWn;clear HBWn;go_wp2_with fail;refine KT.keep (Yz HBW.out) ?_;refine Ze rfl ?_;have CQ := hid (CPN.out wc);go_wp2_with fail;refine CQ.mono ?_;rintro en wc ⟨rfl, hb⟩;have HBWn : Hid (Below w2.heap.size w2 wc) := HBW.trans (hb.mono HBW.size)
  try (have HGQ2 := bb HGQ hb; clear HGQ; have HGQ := HGQ2; clear HGQ2)
  clear HBW hb CQ;have HBW := HBWn;clear HBWn;go_wp2_with fail;refine KT.keep (Yz HBW.out) ?_;refine Zc rfl rfl ?_
  go_big_quiet_step (fail)
  refine wpQuiet_nil ?_
 all_goals
  refine Ze rfl ?_;go_wp2_with (refine wpList_store_row rfl 41 _ _ rfl gq #[lv, rg, wn, ou, qu, vi, nm, dl, jp, .slice A n c, .int .i64 0, .int .i64 0, .int .i64 0, .int .i64 0, .int .i64 0, .int .i64 0, .string ⟨#[]⟩, cw, .string ⟨#[]⟩, .int .i64 0, .slice none 0 0, .string ⟨#[]⟩, .string ⟨#[]⟩, .string ⟨#[]⟩, co, .int .i64 0, .bool false, nw] rfl rfl 41 _ HGQ.out Zh rfl ab ?_);refine KT.past rfl ?_;refine Zi ?_;obtain ⟨wd, hwd⟩ := nE (wc.setRow gq #[lv, rg, wn, ou, qu, vi, nm, dl, jp, .slice A n c, .int .i64 0, .int .i64 0, .int .i64 0, .int .i64 0, .int .i64 0, .int .i64 0, .string ⟨#[]⟩, cw, .string ⟨#[]⟩, .int .i64 0, .slice none 0 0, .string ⟨#[]⟩, .string ⟨#[]⟩, .string ⟨#[]⟩, co, .int .i64 0, .bool false, nw]);have HQ6 : Hid (Blk wd gq 41 #[lv, rg, wn, ou, qu, vi, nm, dl, jp, .slice A n c, .int .i64 0, .int .i64 0, .int .i64 0, .int .i64 0, .int .i64 0, .int .i64 0, .string ⟨#[]⟩, cw, .string ⟨#[]⟩, .int .i64 0, .slice none 0 0, .string ⟨#[]⟩, .string ⟨#[]⟩, .string ⟨#[]⟩, co, .int .i64 0, .bool false, nw]) := hwd ▸ HGQ.setRow _;have HKD : Hid (Za (fun k => k = gq) wc wd) := hwd ▸ Za.setRow (fun k => k = gq) _ gq _ rfl;rw [hwd];have HBD : Hid (Below w.heap.size w wd) := HB2.trans ((HBW.mono HB2.size).trans (HKD.below (Nat.le_trans HB2.size HBW.size) (fun k (e : k = gq) => by rw [e]; exact Nat.le_trans HB2.size HGE.out)));have HPD := hid (HKD.blk (HP2.below HBW.out HP2.lt) (fun e => Nat.ne_of_lt (Nat.lt_of_lt_of_le HP2.lt HGE.out) e));have HRD := hid (HKD.blk (HR2.below HBW.out HR2.lt) (fun e => Nat.ne_of_lt (Nat.lt_of_lt_of_le HR2.lt HGE.out) e));have HNQ : Hid (gr ≠ gq ∧ w.heap.size ≤ gq) := ⟨fun e => Nat.ne_of_lt (Nat.lt_of_lt_of_le HR2.lt HGE.out) e, Nat.le_trans HB2.size HGE.out⟩;clear hwd HKD HBW HGE HGQ HR2 HP2 HS2 HB2 X0 X1 X2 X3 X4 X5 Q0 Q1 Q2 Q3 CHN CPN COW;have x27 := cA HQ6.out 27 nw rfl;have xl := HQ6.lt;have p1 := cA HPD.out 1 dl rfl;have pl := HPD.lt;obtain ⟨⟨t1, t2, t3⟩, ht⟩ : ∃ y, Un nw dl = y := ⟨_, rfl⟩;have CDL := hid (HDL.out wd);rw [ht] at CDL HRF2;unfold Vk.val at CDL;simp only at CDL HRF2;clear ht HDL;go_wp2_with fail;refine CDL.mono ?_;rintro en we ⟨rfl, hb⟩;have HQE := bb HQ6 hb;have HRE := bb HRD hb;have HBE := bt HBD hb;clear hb x27 xl p1 pl CDL HQ6 HRD HBD HPD;have y0 := cA HQE.out 13 (.int .i64 0) rfl;have y1 := cA HQE.out 14 (.int .i64 0) rfl;have y2 := cA HQE.out 15 (.int .i64 0) rfl;have yf := Ys HQE.out;have yl := HQE.lt;go_upto_region 7 with fail;obtain ⟨wf, hwf⟩ := nE (Xc we gq 13 [t1, t2, t3]);have HQF : Hid (Blk wf gq 41 #[lv, rg, wn, ou, qu, vi, nm, dl, jp, .slice A n c, .int .i64 0, .int .i64 0, .int .i64 0, t1, t2, t3, .string ⟨#[]⟩, cw, .string ⟨#[]⟩, .int .i64 0, .slice none 0 0, .string ⟨#[]⟩, .string ⟨#[]⟩, .string ⟨#[]⟩, co, .int .i64 0, .bool false, nw]) := hwf ▸ Uj HQE.out 13 _ (Nat.le_of_ble_eq_true rfl) ab;have HKF : Hid (Za (fun k => k = gq) we wf) := hwf ▸ Xg gq _ we 13;have HRF := hid (HKF.blk HRE.out HNQ.1);have HBF : Hid (Below w.heap.size w wf) := HBE.trans (HKF.below HBE.size (fun k (e : k = gq) => by rw [e]; exact HNQ.2));simp only [Xc, Nat.reduceAdd] at hwf;rw [hwf];clear hwf HKF y0 y1 y2 yf yl HQE HRE HBE;have CM := hid (HCM.out wf _ (HRF2.out 0) HBF.out);clear HCM HRF2;go_wp2_with (refine wpList_load_mid rfl 41 _ rfl gq 0 rfl _ _ (Blk.range HQF.out) Tryz.underlying41 rfl Zh ?_);refine CM.mono ?_;rintro en wg ⟨v', rfl, hrd, hb⟩;obtain ⟨cs, rfl, hl, ha⟩ := hrd.now.agg;have HRG := bb HRF hb;have HBG := bt HBF hb;have HRDG := hid hrd;have HL := hid hl;have HA := hid ha;have HRL : Hid (gr < wf.heap.size) := HRF.lt;clear hb hrd hl ha CM HQF HRF;have HSZ1 : Hid ((Tryz.prog.info? 41).map (·.size) = some cs.toArray.size) := et
  have HSZ2 : Hid ((#[.int .i64 0, .int .i64 0, .int .i64 0, .int .i64 0, .int .i64 0, .int .i64 0, .string ⟨#[]⟩, .int .i64 0, .int .i64 0, .slice none 0 0, .int .i64 0, .int .i64 0, .int .i64 0, .int .i64 0, .int .i64 0, .int .i64 0, .string ⟨#[]⟩, .int .i64 0, .string ⟨#[]⟩, .int .i64 0, .slice none 0 0, .string ⟨#[]⟩, .string ⟨#[]⟩, .string ⟨#[]⟩, .int .i64 0, .int .i64 0, .bool false, .int .i64 0] : Array Value).size = cs.toArray.size) := by
   exact N137
  go_wp2_with (refine wpList_store_row rfl 41 _ _ rfl gr cs.toArray rfl rfl 41 _ HRG.out HSZ1.out HSZ2.out HA.out ?_);have hf := Zaw (xs := cs) HRG.out HBG.out HNE.out Tryz.underlying41 rfl (by rw [Zh, HL.out]);refine bodyPost_ret (Ww (Yb.cell rfl hf.1) (Yb.tmp rfl) Tryz.results56) rfl ?_;rw [← HQ.out];exact ⟨hf.2.1, _, 0, rfl, rfl, ⟨cs, rfl, HL.out, HA.out⟩, fun _ => HRDG.use (hf.2.2.mono (fun k _ (e : k = gr) => by rw [e]; exact .inr ⟨HNE.out, HRL.out⟩)) HBF.size⟩
end Go.Proofs.YtpkkfdmhbbipoaaGreat
