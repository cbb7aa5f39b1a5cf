/- Law 22's begin: both dialogues of a play. What a dialogue sends, in plain Lean: what was taken is the texts sent, then a head of the op's text. -/
import Derived.Test.YtpkkfdmhbbipoaaGreatRg
import Derived.Test.YtpkkfdmhbbipoaaGreatEb
import Derived.Test.YtpkkfdmhbbipoaaGreatDk
namespace Go.Proofs.YtpkkfdmhbbipoaaGreat
set_option maxRecDepth 20000
set_option maxHeartbeats 16000000
open Go.RowKit PopT
theorem Zmz : Zef [.int .i64 0, .int .i64 0, .int .i64 0, .int .i64 0, .int .i64 0, .int .i64 0, .string ⟨#[]⟩, .int .i64 0, .int .i64 0, .slice none 0 0, .int .i64 0, .int .i64 0, .int .i64 0, .int .i64 0, .int .i64 0, .int .i64 0, .string ⟨#[]⟩, .int .i64 0, .string ⟨#[]⟩, .int .i64 0, .slice none 0 0, .string ⟨#[]⟩, .string ⟨#[]⟩, .string ⟨#[]⟩, .int .i64 0, .int .i64 0, .bool false, .int .i64 0] := by
 intro u hu;simp only [List.mem_cons, List.not_mem_nil, or_false] at hu;constructor
 ·rintro v rfl; simp at hu; omega
 ·rintro s rfl; simp at hu; exact hu
theorem Zpj {p : ByteArray} (h : (Xe p).2.2 = 0) : p ≠ ⟨#[]⟩ := by
 rintro rfl
 revert h
 decide
theorem Znk {p : Xq} (hg : (Xu p).2 = 0) : ∀ o ∈ p.ops, o.kind ≠ 0 ∧ ∀ m ∈ o.arms, m.pat ≠ ⟨#[]⟩ := by
 intro o ho;have h := (Wm _ hg).2.2 o ho;refine ⟨fun hk => ?_, fun m hm => ?_⟩
 ·unfold opE at h; rw [if_pos aa] at h; omega
 ·by_cases hk : o.kind = 2
  ·exact Zpj ((Zb9 _ _ (Ji _ _ (Gh _ _ h hk)).2 m hm).2.1)
  ·unfold opE at h
   split at h
   ·omega
   ·split at h
    ·omega
    ·rename_i _ hb
     cases hb2 : Gm o with
     | false => exact absurd hb2 hb
     | true =>
      unfold Gm at hb2;simp only [Bool.and_eq_true, Bool.or_eq_true, decide_eq_true_eq] at hb2;rcases hb2.2 with h2 | h2
      ·exact absurd h2 hk
      ·have := List.length_eq_zero_iff.1 h2.1.1
       rw [this] at hm; cases hm
theorem Zj.unzero {B d g : Nat} {t : TypeId} {zs cs : List Value} {F : Nat → Prop} {w0 w : World} {x : Zd} (h : Zj B F w0 w d x) (hgB : g < B) (hz : Blk w g t zs.toArray) (h0 : Zef zs) :
  ∃ w2, Zj B F w2 (w.setRow g cs.toArray) d x := by
 obtain ⟨gi, gb, gh, gp, F2, A, c, h1, h2, ⟨bs, ps, P, hbs, h3, h3'⟩, h4, h5, h6, h7, h8, h9, h10, h11, h12⟩ := h;have hk : Za (fun k => k = g) w (w.setRow g cs.toArray) := Za.setRow (fun k => k = g) _ g _ rfl;have hn : ∀ k, F k → k ≠ g := fun k hf e => by have := (h10 k hf).1; omega
 by_cases hg : g < w0.heap.size
 case neg =>
  refine ⟨w0, gi, gb, gh, gp, F2, A, c, hk.blk h1 (hn _ h8.1), h2.keep hk (hn _ h8.2.1) (hn _ h8.2.2.1), ⟨bs, ps, P, Nat.le_trans hbs hk.size, h3.keep hk (fun k hf => hn k (h8.2.2.2.2 k hf)), h3'⟩, h4.keep hk (hn _ h8.2.2.2.1), h5, ?_, ⟨h7.1, Nat.le_trans h7.2 hk.size⟩, h8, h9, fun k hf => ⟨(h10 k hf).1, Nat.lt_of_lt_of_le (h10 k hf).2 hk.size⟩, h11, h12⟩;exact h6.trans (hk.below h6.size (fun k (e : k = g) => aa))
 have hz0 : Blk w0 g t zs.toArray := (h6.block g hg).symm.trans hz;have hk0 : Za (fun k => k = g) w0 (w0.setRow g cs.toArray) := Za.setRow (fun k => k = g) _ g _ rfl;refine ⟨w0.setRow g cs.toArray, gi, gb, gh, gp, F2, A, c, hk.blk h1 (hn _ h8.1), h2.keep hk (hn _ h8.2.1) (hn _ h8.2.2.1), ⟨bs, ps, P, Nat.le_trans hbs hk.size, h3.keep hk (fun k hf => hn k (h8.2.2.2.2 k hf)), h3'⟩, h4.keep hk (hn _ h8.2.2.2.1), Zk6 h5 hz0 h0 (Znk h12.pgood) hk0, ?_, ⟨?_, Nat.le_trans h7.2 hk.size⟩, h8, h9, fun k hf => ⟨(h10 k hf).1, Nat.lt_of_lt_of_le (h10 k hf).2 hk.size⟩, h11, h12⟩
 ·refine ⟨h6.os, h6.tape, h6.output, by simpa using h6.size, fun k hk2 => ?_⟩
  have hk3 : k < w0.heap.size := by simpa using hk2
  by_cases e : k = g
  ·subst e
   rw [setRow_heap w k zs.toArray cs.toArray t (0, 0) hz, setRow_heap w0 k zs.toArray cs.toArray t (0, 0) hz0]
  ·rw [setRow_other _ _ _ _ e, setRow_other _ _ _ _ e]; exact h6.block k hk3
 ·simpa using h7.1
theorem Zqe (p : Xq) (most : Nat) : ∀ o ∈ (Vy p most).ops, ∀ a ∈ o.arms, a.pat.size ≤ 1000000 := by
 intro o ho a ha;obtain ⟨o2, _, rfl⟩ := List.mem_map.1 ho;obtain ⟨a2, _, rfl⟩ := List.mem_map.1 ha;have := Zba 70 a2.pat;show (Kg 70 a2.pat).size ≤ _;omega
theorem Wc.keepD {b : Nat} {G : Nat → Prop} {w w' : World} {v : Value} {l : List OpV} (h : Wc b w v l) (hk : Za G w w') (hf : ∀ k, G k → k < b ∨ ∃ cs, Blk w k 41 cs) : Wc b w' v l := by
 have key : ∀ {e : TypeId} {size n : Nat} {v : Value} {xs : List Value}, w.ownsRow b e size v n xs → e ≠ 41 → w'.ownsRow b e size v n xs := fun ho he => hk.own ho (fun k hv hg => by
  rcases hf k hg with h1 | ⟨cs, h1⟩
  ·exact Nat.lt_irrefl _ (Nat.lt_of_lt_of_le h1 (ho.lt k hv).1)
  ·exact Vj h1 ho he hv)
 obtain ⟨xs, h1, h2, h3⟩ := h;refine ⟨xs, h1, key h2 ac, fun x hx => ?_⟩;obtain ⟨A, c, e, ho⟩ := h3 x hx;exact ⟨A, c, e, key ho ac⟩
def Zbt (s : Uu) (p : Xq) : Nat := if Wr s = false then 1 else if (Xu p).2 ≠ 0 then 2 else 0
def Zep (s : Uu) (p : Xq) (now : Int) (w : World) (e : Ending) (w' : World) : Prop := Below w.heap.size w w' ∧ ∃ (q : Option Addr) (cs : List Value) (ok : Bool), e = .returned (.tuple #[.pointer q, .agg cs.toArray, ok]) ∧ cs.length = 28 ∧ cs.toArray.all (·.oneCell') = true ∧ ok = decide (Zbt s p = 0) ∧
 (ok = true → ∃ w0 d B F, q = some ⟨d, 0, none⟩ ∧ w.heap.size ≤ B ∧ Zj B F w0 w' d ((Qi s p now).come 0) ∧ Vr w.heap.size F w' ((Qi s p now).come 0) (.agg cs.toArray))
theorem Zom (x : Mt) (A : Option Addr) (c : Nat) (B : Option Addr) (k : Nat) (w : World) (hx : Zc5 w x A B k) :
  Calls Tryz.prog 14 #[x.val A c B k] w fun e w' => Zep x.s (Vy x.p 9) x.now w e w' := by
 obtain ⟨hop, hpok, hnow, -, -, -, -, -⟩ := hx
 have CFP : Hid (∀ W, Below w.heap.size w W → Calls Tryz.prog 26 #[x.p.val (.slice A x.p.ops.length c), .int .i64 9] W fun e w' => ∃ A' c', e = .returned ((Vy x.p 9).val (.slice A' (Vy x.p 9).ops.length c')) ∧ Wc W.heap.size w' (.slice A' (Vy x.p 9).ops.length c') (Vy x.p 9).ops ∧ Below W.heap.size W w') := fun W hb =>
  Zqf x.p A c 9 W (hop.below hb) hpok aa
 have HPO := hid (Zmt x.p 9 hpok);have HER : Hid (∀ s p, Zbt s p = if Wr s = false then 1 else if (Xu p).2 ≠ 0 then 2 else 0) := fun _ _ => rfl
 have CDN : Hid (∀ W A' c' b0, Wc b0 W (.slice A' (Vy x.p 9).ops.length c') (Vy x.p 9).ops → Calls Tryz.prog 55 #[x.s.val, (Vy x.p 9).val (.slice A' (Vy x.p 9).ops.length c'), x.now] W fun e w' => Below W.heap.size W w' ∧ ∃ q, e = .returned (.tuple #[.pointer q, ((Zbt x.s (Vy x.p 9) : Nat) : Int)]) ∧
   (Zbt x.s (Vy x.p 9) = 0 → ∃ w0 d B F, q = some ⟨d, 0, none⟩ ∧ W.heap.size ≤ B ∧ Zj B F w0 w' d ((Qi x.s (Vy x.p 9) x.now).come 0))) := fun W A' c' b0 ho =>
  (Ziw x.s (Vy x.p 9) A' c' b0 x.now W ho HPO.out hnow).mono (fun e w' h => by
   unfold Zat at h;refine ⟨h.1, ?_⟩;have h2 := h.2;unfold Zbt;split at h2
   ·rename_i h3; rw [if_pos h3]; exact ⟨_, h2, fun h => fg⟩
   ·rename_i h3
    rw [if_neg h3];split at h2
    ·rename_i h4; rw [if_pos h4]; exact ⟨_, h2, fun h => fg⟩
    ·rename_i h4
     rw [if_neg h4];obtain ⟨w0, d, B, F, rfl, hB, hd, hw⟩ := h2;exact ⟨_, rfl, fun _ => ⟨w0, d, B, F, rfl, hB, hd, hw⟩⟩)
 have CRN : Hid (∀ W A' c' b0 G, Wc b0 W (.slice A' (Vy x.p 9).ops.length c') (Vy x.p 9).ops → (∀ k, G k → k < W.heap.size) → (∀ k, G k → k < b0 ∨ ∃ cs, Blk W k 41 cs) → Calls Tryz.prog 56 #[x.s.val, (Vy x.p 9).val (.slice A' (Vy x.p 9).ops.length c'), x.now] W fun e w' => Below W.heap.size W w' ∧ ∃ cs : List Value, e = .returned (.tuple #[.agg cs.toArray, ((Zbt x.s (Vy x.p 9) : Nat) : Int)]) ∧
   cs.length = 28 ∧ cs.toArray.all (·.oneCell') = true ∧ (Zbt x.s (Vy x.p 9) = 0 → Xz W.heap.size G W W w' ((Qi x.s (Vy x.p 9) x.now).come 0) (.agg cs.toArray))) := fun W A' c' b0 G ho hG hG2 =>
  (Zsy x.s (Vy x.p 9) A' c' x.now G W hG (fun W' hW => (ho.keepD hW hG2).inn rfl) HPO.out hnow (Zqe x.p 9)).mono (fun e w' h => by
   obtain ⟨hb, v, n, rfl, hn, ⟨cs, rfl, hl, ha⟩, hr⟩ := h;have hn2 : n = Zbt x.s (Vy x.p 9) := hn;subst hn2;exact ⟨hb, cs, rfl, hl, ha, hr⟩)
 obtain ⟨Q, hQ⟩ : ∃ Q : Ending → World → Prop, (fun e w' => Zep x.s (Vy x.p 9) x.now w e w') = Q := ⟨_, rfl⟩;have HQ := hid hQ;rw [hQ];obtain ⟨er, her⟩ := nE (Zbt x.s (Vy x.p 9));have HERR := hid her;obtain ⟨X0, hX0⟩ := nE ((Qi x.s (Vy x.p 9) x.now).come 0);have HX0 := hid hX0;rw [her] at CDN CRN;rw [hX0] at CDN CRN;obtain ⟨s, p, now, l, ask⟩ := x;unfold Mt.val;simp only at CFP CDN CRN HQ HERR HX0 ⊢;obtain ⟨n, hnn⟩ := nE (l.length);obtain ⟨m, hmm⟩ := nE (p.ops.length);obtain ⟨pf, hpf⟩ := nE (Vy p 9);rw [hnn, hmm];rw [hmm] at CFP;rw [hpf] at CFP CDN CRN HQ HERR HX0;clear hop hpok hnow hnn hmm hpf hQ her hX0 HPO HER;obtain ⟨lv, rg, wn, ou, qu, vi⟩ := s;obtain ⟨nm, dl, jp, ops⟩ := p;obtain ⟨nm2, dl2, jp2, ops2⟩ := pf;unfold Uu.val at CDN CRN;unfold Xq.val at CFP CDN CRN;simp only at CFP CDN CRN ⊢;obtain ⟨m2, hm2⟩ := nE (ops2.length);rw [hm2] at CFP CDN CRN;clear hm2;go_enter Tryz.func14, Tryz.ntmps14;go_upto_region 1 with fail;generalize hwz : (w.alloc (.cells #[lv, rg, wn, ou, qu, vi, nm, dl, jp, .slice A m c, now, .slice B n k, ask] 29)).alloc (.cells zd 41) = wz;obtain ⟨gx, gr, hgx, hgr, HXX, HR, HB, HNE⟩ := Zeo hwz;rw [hgr, hgx];clear hgr hgx hwz;have X00 := tA HXX.out 0 lv rfl;have X1 := tA HXX.out 1 rg rfl;have X2 := tA HXX.out 2 wn rfl;have X3 := tA HXX.out 3 ou rfl;have X4 := tA HXX.out 4 qu rfl;have X5 := tA HXX.out 5 vi rfl;have X6 := tA HXX.out 6 nm rfl;have X7 := tA HXX.out 7 dl rfl;have X8 := tA HXX.out 8 jp rfl;have X9 := tA HXX.out 9 (.slice A m c) rfl;have X10 := tA HXX.out 10 now rfl;refine Zg wz.heap.size [] (.val 0 (.val 1 (.val 2 (.val 3 (.val 5 (.val 6 (.op 4 (.op 7 (.val 8 (.val 9 (.val 10 (.val 11 (.val 12 (.nil)))))))))))))) ab ab ?_;obtain ⟨wc, hwc, HBW⟩ := dw wz;rw [hwc];clear hwc
 iterate 6 ((first | refine Zc rfl rfl ?_ | refine Zq rfl rfl (Yz HBW.out) ?_); go_big_quiet_step (fail); refine wpQuiet_nil ?_)
 refine Ze rfl ?_;have CQ := hid (CFP.out wc (HB.trans (HBW.mono HB.size)));go_wp2_with fail;refine CQ.mono ?_;rintro en wn ⟨A2, c2, rfl, ho2, hb⟩;have HBWn : Hid (Below wz.heap.size wz wn) := HBW.trans (hb.mono HBW.size);have HO2 := hid (ho2.base HBW.size);clear HBW hb CQ ho2;have HBW := HBWn;clear HBWn;obtain ⟨wc, hwc⟩ := mE wn;subst hwc;go_wp2_with fail;refine KT.keep (Yz HBW.out) ?_;refine Ze rfl ?_;have CQ := hid (CDN.out wc A2 c2 _ HO2.out);go_wp2_with fail;refine CQ.mono ?_;rintro en wn ⟨hb, q, rfl, hd⟩
 have HDD : Hid (er = 0 → ∃ w0 d B F, q = some ⟨d, 0, none⟩ ∧ wz.heap.size ≤ B ∧ Zj B F w0 wn d X0) := fun h => by
  obtain ⟨w0, d, B, F, h1, h2, h3⟩ := hd h;exact ⟨w0, d, B, F, h1, Nat.le_trans HBW.size h2, h3⟩
 have HBWn : Hid (Below wz.heap.size wz wn) := HBW.trans (hb.mono HBW.size);clear HBW hb CQ hd HO2;have HBW := HBWn;clear HBWn;obtain ⟨wc, hwc⟩ := mE wn;subst hwc;go_wp2_with fail;refine KT.keep (Yz HBW.out) ?_
 iterate 5 (refine Zc rfl rfl ?_; go_big_quiet_step (fail); refine wpQuiet_nil ?_)
 refine Zi ?_;go_upto_region 2 with fail;obtain ⟨w2, hw2⟩ := mE wc;subst hw2;have HX2 := bb HXX HBW;have HR2 := bb HR HBW;have HB2 := bt HB HBW;have HS2 : Hid (gr < wz.heap.size ∧ wz.heap.size ≤ w2.heap.size ∧ w.heap.size ≤ wz.heap.size) := ⟨HR.lt, HBW.size, HB.size⟩;clear HXX HR HB HBW X1 X2 X3 X4 X5 X6 X7 X8 X9 X10;have X00 := tA HX2.out 0 lv rfl;have X1 := tA HX2.out 1 rg rfl;have X2 := tA HX2.out 2 wn rfl;have X3 := tA HX2.out 3 ou rfl;have X4 := tA HX2.out 4 qu rfl;have X5 := tA HX2.out 5 vi rfl;have X6 := tA HX2.out 6 nm rfl;have X7 := tA HX2.out 7 dl rfl;have X8 := tA HX2.out 8 jp rfl;have X9 := tA HX2.out 9 (.slice A m c) rfl;have X10 := tA HX2.out 10 now rfl;refine Zg w2.heap.size [12] (.val 0 (.val 1 (.val 2 (.val 3 (.val 5 (.val 6 (.two 4 (.two 7 (.val 8 (.val 9 (.val 10 (.op 11 (.op 12 (.val 13 (.nil))))))) 11 (.op 7 (.val 8 (.val 9 (.val 10 (.op 12 (.val 13 (.nil)))))))) 11 (.op 4 (.op 7 (.val 8 (.val 9 (.val 10 (.op 12 (.val 13 (.nil))))))))))))))) ab ab ?_;obtain ⟨wc, hwc, HBW⟩ := dw w2;rw [hwc];clear hwc
 iterate 6 ((first | refine Zc rfl rfl ?_ | refine Zq rfl rfl (Yz HBW.out) ?_); go_big_quiet_step (fail); refine wpQuiet_nil ?_)
 refine Wj rfl rfl ?_ ?_
 focus
  have CQ := hid (CFP.out wc (HB2.trans (HBW.mono HB2.size)));go_wp2_with fail;refine CQ.mono ?_;rintro en wn ⟨A2, c2, rfl, ho2, hb⟩;have HBWn : Hid (Below w2.heap.size w2 wn) := HBW.trans (hb.mono HBW.size);have HO2 := hid (ho2.base HBW.size)
  try (have HGQ2 := bb HGQ hb; clear HGQ; have HGQ := HGQ2; clear HGQ2)
  clear HBW hb CQ ho2;have HBW := HBWn;clear HBWn;obtain ⟨wc, hwc⟩ := mE wn;subst hwc;go_wp2_with fail;refine KT.keep (Yz HBW.out) ?_;refine Wj rfl rfl ?_ ?_
  focus
   first | (have CQ := hid (CRN.out wc A2 c2 _ (fun k => k < w2.heap.size ∨ k = gq) HO2.out (fun k h => h.elim (fun h => Nat.lt_of_lt_of_le h HBW.size) (fun h => by rw [h]; exact HGQ.lt)) (fun k h => h.imp_right (fun h => ⟨_, h.symm ▸ HGQ.out⟩)))) | (have CQ := hid (CRN.out wc A2 c2 _ (fun k => k < w2.heap.size) HO2.out (fun k h => Nat.lt_of_lt_of_le h HBW.size) (fun k h => .inl h)))
   go_wp2_with fail;refine CQ.mono ?_;rintro en wn ⟨hb, cs, rfl, hl, ha, hr⟩;have HL := hid hl;have HA := hid ha;have HSW : Hid (w2.heap.size ≤ wc.heap.size) := HBW.size
   first | (have HRK : Hid (er = 0 → ∀ W', Za (fun k => k < w2.heap.size ∨ k = gq) wn W' → Ui w2.heap.size W' X0 (.agg cs.toArray)) := fun h0 W' hk => (hr h0 W' (hk.mono fun _ _ h => .inl h)).mono HSW.out) | (have HRV : Hid (er = 0 → ∀ W', Za (fun k => k < w2.heap.size) wn W' → Ui w2.heap.size W' X0 (.agg cs.toArray)) := fun h0 W' hk => (hr h0 W' (hk.mono fun _ _ h => .inl h)).mono HSW.out)
   try (have HGQ2 := bb HGQ hb; clear HGQ; have HGQ := HGQ2; clear HGQ2)
   have HBWn : Hid (Below w2.heap.size w2 wn) := HBW.trans (hb.mono HBW.size);clear HBW hb CQ hr hl ha HO2;have HBW := HBWn;clear HBWn;obtain ⟨wc, hwc⟩ := mE wn;subst hwc;go_wp2_with fail;refine KT.keep (Yz HBW.out) ?_
   iterate 3 (refine Zc rfl rfl ?_; go_big_quiet_step (fail); refine wpQuiet_nil ?_)
   refine Ze rfl ?_;go_wp2_with fail;obtain ⟨wd, hwd⟩ := nE (wc.alloc (.cells zd 41));obtain ⟨gq, hgq⟩ := nE (wc.heap.size);have HGQ : Hid (Blk wd gq 41 zd) := bh
   have hbd : Below wc.heap.size wc wd := hwd ▸ (Below.refl _ _).alloc (Nat.le_refl _) _;have HBWn : Hid (Below w2.heap.size w2 wd) := HBW.trans (hbd.mono HBW.size);have HGE : Hid (w2.heap.size ≤ gq) := hgq ▸ HBW.size
   first | (have HRK : Hid (er = 0 → ∀ W', Za (fun k => k < w2.heap.size ∨ k = gq) wd W' → Ui w2.heap.size W' X0 (.agg cs.toArray)) := fun h0 W' hk => HRV.out h0 W' ((Za.of_below hbd).trans hk (fun k h => h.imp_right (fun h => Nat.le_of_eq (hgq.trans h.symm))))) | skip
   rw [hwd, hgq]
   try (have HO3 := hid (HO2.below hbd (Nat.le_refl _)); clear HO2; have HO2 := HO3; clear HO3)
   clear HBW hwd hgq hbd;have HBW := HBWn;clear HBWn;obtain ⟨wc, hwc⟩ := mE wd;subst hwc;refine KT.keep (Yz HBW.out) ?_
  rotate_left 1
  focus
   go_wp2_with fail;obtain ⟨wd, hwd⟩ := nE (wc.alloc (.cells zd 41));obtain ⟨gq, hgq⟩ := nE (wc.heap.size);have HGQ : Hid (Blk wd gq 41 zd) := bh
   have hbd : Below wc.heap.size wc wd := hwd ▸ (Below.refl _ _).alloc (Nat.le_refl _) _;have HBWn : Hid (Below w2.heap.size w2 wd) := HBW.trans (hbd.mono HBW.size);have HGE : Hid (w2.heap.size ≤ gq) := hgq ▸ HBW.size
   first | (have HRK : Hid (er = 0 → ∀ W', Za (fun k => k < w2.heap.size ∨ k = gq) wd W' → Ui w2.heap.size W' X0 (.agg cs.toArray)) := fun h0 W' hk => HRV.out h0 W' ((Za.of_below hbd).trans hk (fun k h => h.imp_right (fun h => Nat.le_of_eq (hgq.trans h.symm))))) | skip
   rw [hwd, hgq]
   try (have HO3 := hid (HO2.below hbd (Nat.le_refl _)); clear HO2; have HO2 := HO3; clear HO3)
   clear HBW hwd hgq hbd;have HBW := HBWn;clear HBWn;obtain ⟨wc, hwc⟩ := mE wd;subst hwc;refine KT.keep (Yz HBW.out) ?_;refine Ze rfl ?_
   first | (have CQ := hid (CRN.out wc A2 c2 _ (fun k => k < w2.heap.size ∨ k = gq) HO2.out (fun k h => h.elim (fun h => Nat.lt_of_lt_of_le h HBW.size) (fun h => by rw [h]; exact HGQ.lt)) (fun k h => h.imp_right (fun h => ⟨_, h.symm ▸ HGQ.out⟩)))) | (have CQ := hid (CRN.out wc A2 c2 _ (fun k => k < w2.heap.size) HO2.out (fun k h => Nat.lt_of_lt_of_le h HBW.size) (fun k h => .inl h)))
   go_wp2_with fail;refine CQ.mono ?_;rintro en wn ⟨hb, cs, rfl, hl, ha, hr⟩;have HL := hid hl;have HA := hid ha;have HSW : Hid (w2.heap.size ≤ wc.heap.size) := HBW.size
   first | (have HRK : Hid (er = 0 → ∀ W', Za (fun k => k < w2.heap.size ∨ k = gq) wn W' → Ui w2.heap.size W' X0 (.agg cs.toArray)) := fun h0 W' hk => (hr h0 W' (hk.mono fun _ _ h => .inl h)).mono HSW.out) | (have HRV : Hid (er = 0 → ∀ W', Za (fun k => k < w2.heap.size) wn W' → Ui w2.heap.size W' X0 (.agg cs.toArray)) := fun h0 W' hk => (hr h0 W' (hk.mono fun _ _ h => .inl h)).mono HSW.out)
   try (have HGQ2 := bb HGQ hb; clear HGQ; have HGQ := HGQ2; clear HGQ2)
   have HBWn : Hid (Below w2.heap.size w2 wn) := HBW.trans (hb.mono HBW.size);clear HBW hb CQ hr hl ha HO2;have HBW := HBWn;clear HBWn;obtain ⟨wc, hwc⟩ := mE wn;subst hwc;go_wp2_with fail;refine KT.keep (Yz HBW.out) ?_
   iterate 3 (refine Zc rfl rfl ?_; go_big_quiet_step (fail); refine wpQuiet_nil ?_)
 rotate_left 2
 focus
  go_wp2_with fail;obtain ⟨wd, hwd⟩ := nE (wc.alloc (.cells zd 41));obtain ⟨gq, hgq⟩ := nE (wc.heap.size);have HGQ : Hid (Blk wd gq 41 zd) := bh
  have hbd : Below wc.heap.size wc wd := hwd ▸ (Below.refl _ _).alloc (Nat.le_refl _) _;have HBWn : Hid (Below w2.heap.size w2 wd) := HBW.trans (hbd.mono HBW.size);have HGE : Hid (w2.heap.size ≤ gq) := hgq ▸ HBW.size
  first | (have HRK : Hid (er = 0 → ∀ W', Za (fun k => k < w2.heap.size ∨ k = gq) wd W' → Ui w2.heap.size W' X0 (.agg cs.toArray)) := fun h0 W' hk => HRV.out h0 W' ((Za.of_below hbd).trans hk (fun k h => h.imp_right (fun h => Nat.le_of_eq (hgq.trans h.symm))))) | skip
  rw [hwd, hgq]
  try (have HO3 := hid (HO2.below hbd (Nat.le_refl _)); clear HO2; have HO2 := HO3; clear HO3)
  clear HBW hwd hgq hbd;have HBW := HBWn;clear HBWn;obtain ⟨wc, hwc⟩ := mE wd;subst hwc;refine KT.keep (Yz HBW.out) ?_;refine Ze rfl ?_;have CQ := hid (CFP.out wc (HB2.trans (HBW.mono HB2.size)));go_wp2_with fail;refine CQ.mono ?_;rintro en wn ⟨A2, c2, rfl, ho2, hb⟩;have HBWn : Hid (Below w2.heap.size w2 wn) := HBW.trans (hb.mono HBW.size);have HO2 := hid (ho2.base HBW.size)
  try (have HGQ2 := bb HGQ hb; clear HGQ; have HGQ := HGQ2; clear HGQ2)
  clear HBW hb CQ ho2;have HBW := HBWn;clear HBWn;obtain ⟨wc, hwc⟩ := mE wn;subst hwc;go_wp2_with fail;refine KT.keep (Yz HBW.out) ?_;refine Ze rfl ?_
  first | (have CQ := hid (CRN.out wc A2 c2 _ (fun k => k < w2.heap.size ∨ k = gq) HO2.out (fun k h => h.elim (fun h => Nat.lt_of_lt_of_le h HBW.size) (fun h => by rw [h]; exact HGQ.lt)) (fun k h => h.imp_right (fun h => ⟨_, h.symm ▸ HGQ.out⟩)))) | (have CQ := hid (CRN.out wc A2 c2 _ (fun k => k < w2.heap.size) HO2.out (fun k h => Nat.lt_of_lt_of_le h HBW.size) (fun k h => .inl h)))
  go_wp2_with fail;refine CQ.mono ?_;rintro en wn ⟨hb, cs, rfl, hl, ha, hr⟩;have HL := hid hl;have HA := hid ha;have HSW : Hid (w2.heap.size ≤ wc.heap.size) := HBW.size
  first | (have HRK : Hid (er = 0 → ∀ W', Za (fun k => k < w2.heap.size ∨ k = gq) wn W' → Ui w2.heap.size W' X0 (.agg cs.toArray)) := fun h0 W' hk => (hr h0 W' (hk.mono fun _ _ h => .inl h)).mono HSW.out) | (have HRV : Hid (er = 0 → ∀ W', Za (fun k => k < w2.heap.size) wn W' → Ui w2.heap.size W' X0 (.agg cs.toArray)) := fun h0 W' hk => (hr h0 W' (hk.mono fun _ _ h => .inl h)).mono HSW.out)
  try (have HGQ2 := bb HGQ hb; clear HGQ; have HGQ := HGQ2; clear HGQ2)
  have HBWn : Hid (Below w2.heap.size w2 wn) := HBW.trans (hb.mono HBW.size);clear HBW hb CQ hr hl ha HO2;have HBW := HBWn;clear HBWn;obtain ⟨wc, hwc⟩ := mE wn;subst hwc;go_wp2_with fail;refine KT.keep (Yz HBW.out) ?_
  iterate 3 (refine Zc rfl rfl ?_; go_big_quiet_step (fail); refine wpQuiet_nil ?_)
 all_goals
  refine Ze rfl ?_;have HSZ1 : Hid ((Tryz.prog.info? 41).map (·.size) = some cs.toArray.size) := et
  have HSZ2 : Hid ((#[.int .i64 0, .int .i64 0, .int .i64 0, .int .i64 0, .int .i64 0, .int .i64 0, .string ⟨#[]⟩, .int .i64 0, .int .i64 0, .slice none 0 0, .int .i64 0, .int .i64 0, .int .i64 0, .int .i64 0, .int .i64 0, .int .i64 0, .string ⟨#[]⟩, .int .i64 0, .string ⟨#[]⟩, .int .i64 0, .slice none 0 0, .string ⟨#[]⟩, .string ⟨#[]⟩, .string ⟨#[]⟩, .int .i64 0, .int .i64 0, .bool false, .int .i64 0] : Array Value).size = cs.toArray.size) := by
   exact N137
  go_wp2_with (refine wpList_store_row rfl 41 _ _ rfl gq cs.toArray rfl rfl 41 _ HGQ.out HSZ1.out HSZ2.out HA.out ?_);refine KT.past rfl ?_;refine Zc rfl rfl ?_;simp only [Act.put]
  go_big_quiet_step (fail)
  refine wpQuiet_nil ?_;refine Zi ?_;obtain ⟨we, hwe⟩ := nE (wc.setRow gq cs.toArray);have HKE : Hid (Za (fun k => k = gq) wc we) := hwe ▸ Za.setRow (fun k => k = gq) _ gq _ rfl;have HQE : Hid (Blk we gq 41 cs.toArray) := hwe ▸ HGQ.setRow _;have HBE2 : Hid (Below w2.heap.size w2 we) := HBW.trans (HKE.below HBW.size (fun k (e : k = gq) => by rw [e]; exact HGE.out));have HRE := bb HR2 HBE2;have HBE := bt HB2 HBE2
  have HDE : Hid (er = 0 → ∃ d B F, q = some ⟨d, 0, none⟩ ∧ w.heap.size ≤ B ∧ ∀ W, Below we.heap.size we W → (∃ w0, Zj B F w0 (W.setRow gr cs.toArray) d X0) ∧ Vr w.heap.size F (W.setRow gr cs.toArray) X0 (.agg cs.toArray)) := fun h0 => by
   obtain ⟨w0, d, B, F, h1, h2, h3⟩ := HDD.out h0;have h5 : Zj B F w0 we d X0 := h3.below HBE2.out;have hF : ∀ k, F k → k < w2.heap.size := fun k hk => (h3.fin k hk).2;have hks : ∀ W : World, Za (fun k => k = gr) W (W.setRow gr cs.toArray) := fun W => Za.setRow (fun k => k = gr) _ gr _ rfl;refine ⟨d, B, F, h1, by have := HS2.out; omega, fun W hW => ⟨(h5.below hW).unzero (cs := cs) (Nat.lt_of_lt_of_le HS2.1 h2) (HRE.below hW HRE.lt) Zmz, fun k hk => Nat.lt_of_lt_of_le (hF k hk) (Nat.le_trans (Nat.le_trans HBE2.size hW.size) (hks W).size), fun W' hF' => ?_⟩⟩;have K1 : Za (fun k => k < w2.heap.size ∨ k = gq) wc we := HKE.mono (fun _ _ h => .inr h);exact (HRK.out h0 W' (((Vl K1 hW).trans (hks W) (fun k (e : k = gr) => .inl (.inl (by rw [e]; exact Nat.lt_of_lt_of_le HS2.1 HS2.2.1)))).trans hF' (fun k h => .inl (.inl (hF k h))))).mono (by have := HB2.size; omega)
  have HSZ3 : Hid ((Tryz.prog.info? 41).map (·.size) = some cs.length) := by rw [Hid, Zh, HL.out]
  rw [hwe];clear hwe HKE HGQ HBW HBE2 HRK HDD HR2 HX2 HB2 HS2 HGE X1 X2 X3 X4 X5 X6 X7 X8 X9 X10;have hql := HQE.lt;rcases Decidable.em (er = 0) with h0 | h0
  ·obtain ⟨d, B', F, h1, h2, h3⟩ := HDE.out h0
   have HF := hid (And.intro h2 h3);have hb0 : ((er : Int) == 0) = true := bT aa;have HERR2 : Hid (Zbt _ _ = 0) := HERR.trans h0;subst h1;clear HDE h2 h3 h0 HERR;go_upto_region 3 with fail;refine Zg we.heap.size [13] (.val 0 (.val 2 (.val 3 (.val 4 (.val 5 (.val 6 (.val 7 (.val 8 (.val 9 (.val 10 (.val 11 (.val 12 (.op 1 (.op 13 (.val 14 (.nil)))))))))))))))) ab ab ?_;obtain ⟨wc, hwc, HBW⟩ := dw we;rw [hwc];clear hwc
   iterate 12 (refine Zc rfl rfl ?_; go_big_quiet_step (fail); refine wpQuiet_nil ?_)
   refine Ze rfl ?_;go_wp2_with (refine wpList_load_mid rfl 41 _ rfl gq 0 rfl cs _ (Blk.range (HQE.below HBW.out HQE.lt)) Tryz.underlying41 rfl HSZ3.out ?_);refine KT.same ?_;refine Ze rfl ?_;go_wp2_with (refine wpList_store_row rfl 41 _ _ rfl gr cs.toArray rfl rfl 41 _ (HRE.below HBW.out HRE.lt) HSZ1.out HSZ2.out HA.out ?_);refine KT.past rfl ?_;refine Zc rfl rfl ?_;simp only [Act.put, List.setIfInBounds_toArray, List.set_cons_succ, List.set_cons_zero]
   go_big_quiet_step (fail)
   refine wpQuiet_nil ?_;refine Zi ?_;go_wp2_with fail;have hf := Zaw (xs := cs) (HRE.below HBW.out HRE.lt) (HBE.trans (HBW.mono HBE.size)) HNE.2.2 Tryz.underlying41 rfl HSZ3.out;refine bodyPost_ret (Za4 (Yb.tmp rfl) (Yb.cell rfl hf.1) (Yb.tmp rfl) Tryz.results14) rfl ?_;rw [← HQ.out];exact ⟨hf.2.1, _, cs, true, rfl, HL.out, HA.out, by rw [HERR2.out]; rfl, fun _ => by obtain ⟨⟨w5, h5⟩, h6⟩ := HF.2 _ HBW.out; rw [← HX0.out] at h5 h6; exact ⟨w5, d, B', F, rfl, HF.1, h5, h6⟩⟩
  ·have hb0 : ((er : Int) == 0) = false := bF aa
   have HERR2 : Hid (Zbt _ _ ≠ 0) := fun h => h0 (HERR.symm.trans h);clear HDE h0 HERR;go_upto_region 3 with fail;refine Zg we.heap.size [13] (.val 0 (.val 2 (.val 3 (.val 4 (.val 5 (.val 6 (.val 7 (.val 8 (.val 9 (.val 10 (.val 11 (.val 12 (.op 1 (.op 13 (.val 14 (.nil)))))))))))))))) ab ab ?_;obtain ⟨wc, hwc, HBW⟩ := dw we;rw [hwc];clear hwc
   iterate 12 (refine Zc rfl rfl ?_; go_big_quiet_step (fail); refine wpQuiet_nil ?_)
   refine Ze rfl ?_;go_wp2_with (refine wpList_load_mid rfl 41 _ rfl gq 0 rfl cs _ (Blk.range (HQE.below HBW.out HQE.lt)) Tryz.underlying41 rfl HSZ3.out ?_);refine KT.same ?_;refine Ze rfl ?_;go_wp2_with (refine wpList_store_row rfl 41 _ _ rfl gr cs.toArray rfl rfl 41 _ (HRE.below HBW.out HRE.lt) HSZ1.out HSZ2.out HA.out ?_);refine KT.past rfl ?_;refine Zc rfl rfl ?_;simp only [Act.put, List.setIfInBounds_toArray, List.set_cons_succ, List.set_cons_zero]
   go_big_quiet_step (fail)
   refine wpQuiet_nil ?_;refine Zi ?_;go_wp2_with fail;have hf := Zaw (xs := cs) (HRE.below HBW.out HRE.lt) (HBE.trans (HBW.mono HBE.size)) HNE.2.2 Tryz.underlying41 rfl HSZ3.out;refine bodyPost_ret (Za4 (Yb.tmp rfl) (Yb.cell rfl hf.1) (Yb.tmp rfl) Tryz.results14) rfl ?_;rw [← HQ.out];exact ⟨hf.2.1, _, cs, false, rfl, HL.out, HA.out, (decide_eq_false HERR2.out).symm, fun h => fg⟩
theorem Zf4 (a : ByteArray) : a ++ ⟨#[]⟩ = a := by apply ByteArray.ext; simp
theorem Zcr {a : ByteArray} (h : a.size = 0) : a = ⟨#[]⟩ := (Ky a).2 h
def Zmy (x : Zd) : Prop := x.pd.sent ≤ x.pd.laid ∧ x.pd.laid ≤ x.pd.text.size
structure Zta (x : Zd) (sent part : ByteArray) : Prop where
 rest : part.size ≠ 0 → x.loc < x.p.ops.length ∧ part.size ≤ x.op.text.size ∧ x.op.text.extract 0 part.size = part
 sends : x.st = 0 → x.op.kind = 1 → x.pd.text = x.op.text ∧ part = x.pd.text.extract 0 x.pd.sent
 none : x.st = 0 → x.op.kind ≠ 1 → part.size = 0 ∧ x.pd.sent = x.pd.laid
theorem Zj.pdOk {B d : Nat} {F : Nat → Prop} {w0 w : World} {x : Zd} (h : Zj B F w0 w d x) : Zmy x := by
 obtain ⟨gi, gb, gh, gp, F2, A, c, h⟩ := h;exact ⟨h.pend.2.1, h.pend.2.2.1⟩
end Go.Proofs.YtpkkfdmhbbipoaaGreat
