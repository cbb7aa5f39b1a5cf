/- Walks: package dial: Put, Eof, Take, Cut, the getters. Walks: package dial: ready. Walks: package dial: Ready. -/
import Derived.Test.YtpkkfdmhbbipoaaGreatDe
namespace Go.Proofs.YtpkkfdmhbbipoaaGreat
set_option maxRecDepth 20000
set_option maxHeartbeats 4000000
open Go.RowKit PopT
section
variable {B d gi gb gh gp c : Nat} {F F2 : Nat → Prop} {w0 w w' : World} {A : Option Addr} {x : Zf}
theorem Zab (h : Zr B F w0 w d gi gb gh gp F2 A c x) (hs : x.st = 0) : Calls Tryz.prog 63 #[.pointer (some ⟨d, 0, none⟩)] w fun e w' => e = .returned (.bool true) ∧ w = w' := by
 have := Zil h; rwa [decide_eq_true hs] at this
theorem Zb8 (h : Zr B F w0 w d gi gb gh gp F2 A c x) (hs : x.st ≠ 0) : Calls Tryz.prog 63 #[.pointer (some ⟨d, 0, none⟩)] w fun e w' => e = .returned (.bool false) ∧ w = w' := by
 have := Zil h; rwa [decide_eq_false hs] at this
theorem Zr.turnR {R : List UInt8} (h : Zr B F w0 w d gi gb gh gp F2 A c x) (hk : Za (RgF gi gb) w w') (hr : Rg w' gi gb x.s.ring.toNat R) :
  Zr B F w0 w' d gi gb gh gp F2 A c ⟨x.s, x.p, x.loc, x.st, x.jumps, x.due, R, x.S, x.seen, x.P, x.pd, x.eof, x.now⟩ := by
 obtain ⟨h1, h2, ⟨bs, ps, P, hbs, h3, h3'⟩, h4, h5, h6, h7, h8, h9, h10, h11, h12⟩ := h;obtain ⟨n1, n2, n3, n4, n5, n6, n7, n8, n9, n10⟩ := h9;obtain ⟨o1, o2, o3, o4, o5, o6, o7, o8, o9, o10⟩ := h12;refine ⟨hk.blk h1 (fun e => e.elim n1 n2), hr, ⟨bs, ps, P, Nat.le_trans hbs hk.size, h3.keep hk (fun k hf (e : k = gi ∨ k = gb) => e.elim (fun e => n8 (e ▸ hf)) (fun e => n9 (e ▸ hf))), h3'⟩, h4.keep hk (fun e => e.elim (fun e => n4 e.symm) (fun e => n5 e.symm)), h5, ?_, ⟨h7.1, Nat.le_trans h7.2 hk.size⟩, h8, ⟨n1, n2, n3, n4, n5, n6, n7, n8, n9, n10⟩, fun k hf => ⟨(h10 k hf).1, Nat.lt_of_lt_of_le (h10 k hf).2 hk.size⟩, h11, ⟨o1, o2, o3, o4, o5, o6, o7, o8, o9, o10⟩⟩;refine h6.trans (hk.below h6.size ?_);rintro k (e | e)
 ·rw [e]; exact Nat.le_trans h7.1 (h10 gi h8.2.1).1
 ·rw [e]; exact Nat.le_trans h7.1 (h10 gb h8.2.2.1).1
theorem Zr.rgKeep (h : Zr B F w0 w d gi gb gh gp F2 A c x) {w1 w2 : World} (hk : Za (RgF gi gb) w1 w2) : Za F w1 w2 :=
 hk.mono (fun k _ e => e.elim (fun e => by rw [e]; exact h.fd.2.1) (fun e => by rw [e]; exact h.fd.2.2.1))
theorem Zhe (s : ByteArray) (m : Nat) : s.data.toList.take (min s.size m) = s.data.toList.take m := by
 have e : s.size = s.data.toList.length := by rw [Array.length_toList]; rfl
 rw [e];rcases Nat.le_total s.data.toList.length m with h | h
 ·rw [Nat.min_eq_left h, List.take_of_length_le h, List.take_of_length_le (Nat.le_refl _)]
 ·rw [Nat.min_eq_right h]
theorem N78{P:Prop}(h:P:=by
 go_enter Tryz.func16, Tryz.ntmps16;go_wp2_with fail;refine CR.mono ?_;rintro en w1 ⟨rfl, rfl⟩;go_wp2_with fail;go_ret;rw [HE.out];exact ⟨rfl, HD.out, Za.refl F w⟩):P:=h
theorem Zp4 (h : Zr B F w0 w d gi gb gh gp F2 A c x) (b : ByteArray) (hb : b.size ≤ 9223372036854775807) : Calls Tryz.prog 16 #[.pointer (some ⟨d, 0, none⟩), b] w fun e w' => e = .returned (((x.put b).2 : Nat) : Int) ∧ Zr B F w0 w' d gi gb gh gp F2 A c (x.put b).1 ∧ Za F w w' := by
 have HD := hid h;have c19 : w.cell? ⟨d, 19, none⟩ = some (.bool x.eof) := h.cell 19;have c16 : w.cell? ⟨d, 16, none⟩ = some (.pointer (some ⟨gi, 0, none⟩)) := h.cell 16;have hl := h.lt;by_cases hs : x.st = 0
 ·have CR := hid (Zab h hs)
  cases he : x.eof
  ·rw [he] at c19
   have HE : Hid (x.put b = (⟨x.s, x.p, x.loc, x.st, x.jumps, x.due, x.R ++ b.data.toList.take (x.s.ring.toNat - x.R.length), x.S, x.seen, x.P, x.pd, x.eof, x.now⟩, min b.size (x.s.ring.toNat - x.R.length))) := by
    unfold Zf.put; exact if_neg (by rintro (h | h); exact h hs; rw [he] at h; cases h)
   have CP := hid (Zmv w gi gb x.s.ring.toNat x.R b h.ring hb);rw [Zhe] at CP;obtain ⟨n, hn⟩ := nE (min b.size (x.s.ring.toNat - x.R.length));rw [hn] at CP HE;clear he hs h hn;go_enter Tryz.func16, Tryz.ntmps16;go_wp2_with fail;refine CR.mono ?_;rintro en w1 ⟨rfl, rfl⟩;go_wp2_with fail;refine CP.mono ?_;rintro en w1 ⟨rfl, hr1, hk1⟩;have HR1 := hid (HD.turnR hk1 hr1);have HK1 := hid (HD.rgKeep hk1);clear hr1 hk1 CP CR;go_wp2_with fail;go_ret;rw [HE.out];exact ⟨rfl, HR1.out, HK1.out⟩
  ·rw [he] at c19
   have HE : Hid (x.put b = (x, 0)) := by unfold Zf.put; exact if_pos (.inr he)
   clear he hs h;exact N78
 ·have CR := hid (Zb8 h hs)
  have HE : Hid (x.put b = (x, 0)) := by unfold Zf.put; exact if_pos (.inl hs)
  clear hs h;exact N78
theorem N90{P:Prop}(h:P:=by
 go_wp2_with fail;refine CR.mono ?_;rintro en w1 ⟨rfl, rfl⟩;go_wp2_with fail;go_ret;rw [HE.1, HE.2];exact ⟨rfl, HD.out, Za.refl F w⟩):P:=h
theorem Zp5 (h : Zr B F w0 w d gi gb gh gp F2 A c x) : Calls Tryz.prog 17 #[.pointer (some ⟨d, 0, none⟩)] w fun e w' => e = .returned (.bool (decide (x.st = 0) && !x.eof)) ∧ Zr B F w0 w' d gi gb gh gp F2 A c x.ends ∧ Za F w w' := by
 have HD := hid h;have c19 : w.cell? ⟨d, 19, none⟩ = some (.bool x.eof) := h.cell 19;have y19 := h.blk.frozen 19;have hl := h.lt;by_cases hs : x.st = 0
 ·have CR := hid (Zab h hs)
  have HS := hid hs;cases he : x.eof
  ·rw [he] at c19
   have HE : Hid (x.ends = ⟨x.s, x.p, x.loc, x.st, x.jumps, x.due, x.R, x.S, x.seen, x.P, x.pd, true, x.now⟩) := by unfold Zf.ends; exact if_neg aa
   clear he hs h;go_enter Tryz.func17, Tryz.ntmps17;go_wp2_with fail;refine CR.mono ?_;rintro en w1 ⟨rfl, rfl⟩;go_wp2_with fail;obtain ⟨wz, hwz⟩ := nE (w.setCell ⟨d, 19, none⟩ (.bool true));have KZ : Za (fun k => k = d) w wz := hwz ▸ Zy _ _ _ _;have BZ : Blk wz d 107 (x.ends.cells A c gi gh gp) := by rw [← hwz, HE.out]; exact HD.blk.set 19 _
   rw [hwz];have DZ : Zr B F w0 wz d gi gb gh gp F2 A c x.ends := HD.turn KZ BZ cn cn cn cn cn cn cn (by rw [HE.out]; obtain ⟨o1, o2, o3, o4, o5, o6, o7, o8, o9, o10⟩ := HD.ok; exact ⟨o1, o2, o3, o4, o5, o6, o7, o8, o9, o10⟩);have QQ : ∃ Q : World → Prop, Q = (fun W => Zr B F w0 W d gi gb gh gp F2 A c x.ends ∧ Za F w W) := ⟨_, rfl⟩;go_ret;exact ⟨by rw [HS.out]; rfl, DZ, KZ.mono (fun k _ e => gc)⟩
  ·rw [he] at c19
   have HE : Hid (x.ends = x) := by unfold Zf.ends; rw [if_neg aa]; have : true = x.eof := he.symm; rw [this]; exact rfl
   clear he hs h;go_enter Tryz.func17, Tryz.ntmps17;go_wp2_with fail;refine CR.mono ?_;rintro en w1 ⟨rfl, rfl⟩;go_wp2_with fail;go_ret;rw [HE.out];exact ⟨by rw [HS.out]; rfl, HD.out, Za.refl F w⟩
 ·have CR := hid (Zb8 h hs)
  have HE : Hid (x.ends = x ∧ (decide (x.st = 0) && !x.eof) = false) := ⟨by unfold Zf.ends; exact if_pos hs, by rw [decide_eq_false hs]; rfl⟩;clear hs h;go_enter Tryz.func17, Tryz.ntmps17;exact N90
theorem Znx (h : Zr B F w0 w d gi gb gh gp F2 A c x) (z : Int) : Calls Tryz.prog 18 #[.pointer (some ⟨d, 0, none⟩), z] w fun e w' => e = .returned (.string (x.took z)) ∧ Zr B F w0 w' d gi gb gh gp F2 A c (x.take z) ∧ Za F w w' := by
 have HD := hid h;have c18 : w.cell? ⟨d, 18, none⟩ = some (.pointer (some ⟨gp, 0, none⟩)) := h.cell 18;have hl := h.lt;by_cases hs : x.st = 0
 ·have CR := hid (Zab h hs)
  have HE : Hid (x.take z = ⟨x.s, x.p, x.loc, x.st, x.jumps, x.due, x.R, x.S, x.seen, x.P, x.pd.take z, x.eof, x.now⟩ ∧ x.took z = x.pd.took z) := ⟨by unfold Zf.take; exact if_neg aa, by unfold Zf.took; exact if_neg aa⟩;have CP := hid (Zkw gp x.pd z w h.pend);clear hs h;go_enter Tryz.func18, Tryz.ntmps18;go_wp2_with fail;refine CR.mono ?_;rintro en w1 ⟨rfl, rfl⟩;go_wp2_with fail;refine CP.mono ?_;rintro en w1 ⟨rfl, hp1, hk1⟩;have HR1 := hid (HD.turnP hk1 hp1 rfl);have HK1 : Hid (Za F w w1) := hid (hk1.mono (fun k _ e => by rw [e]; exact HD.fd.2.2.2.1));clear hp1 hk1 CP CR;go_wp2_with fail;go_ret;rw [HE.1, HE.2];exact ⟨rfl, HR1.out, HK1.out⟩
 ·have CR := hid (Zb8 h hs)
  have HE : Hid (x.take z = x ∧ x.took z = ⟨#[]⟩) := ⟨by unfold Zf.take; exact if_pos hs, by unfold Zf.took; exact if_pos hs⟩;clear hs h;go_enter Tryz.func18, Tryz.ntmps18;exact N90
theorem Zp6 (h : Zr B F w0 w d gi gb gh gp F2 A c x) (t : Int) (ht : I6 t) : Calls Tryz.prog 19 #[.pointer (some ⟨d, 0, none⟩), t] w fun e w' => e = .returned (.tuple #[]) ∧ Zr B F w0 w' d gi gb gh gp F2 A c (x.cuts t) ∧ Za F w w' := by
 have HD := hid h;have c13 : w.cell? ⟨d, 13, none⟩ = some (.int .i64 x.due.til) := h.cell 13;have c14 : w.cell? ⟨d, 14, none⟩ = some (.int .i64 x.due.lim) := h.cell 14;have c15 : w.cell? ⟨d, 15, none⟩ = some (.int .i64 x.due.cut) := h.cell 15;have hl := h.lt;by_cases hs : x.st = 0
 ·have CR := hid (Zab h hs)
  have HE : Hid (x.cuts t = ⟨x.s, x.p, x.loc, x.st, x.jumps, x.due.cuts t, x.R, x.S, x.seen, x.P, x.pd, x.eof, x.now⟩) := by unfold Zf.cuts; exact if_neg aa
  obtain ⟨l, hlst⟩ := nE (Va [x.due.cut, t])
  have HOK : Hid (Ys (x.cuts t)) := by
   rw [HE.out];obtain ⟨o1, o2, o3, o4, o5, o6, o7, o8, o9, o10⟩ := HD.ok;have := Znl [x.due.cut, t] (by intro y hy; simp at hy; rcases hy with hy | hy <;> rw [hy] <;> assumption);exact ⟨o1, o2, o3, o4, o5, o6, o7, o8, ⟨by show -9223372036854775808 ≤ Va [x.due.cut, t]; omega, this.2⟩, o10⟩
  have CC : Hid (∀ W, Calls Tryz.prog 66 #[.agg #[x.due.til, x.due.lim, x.due.cut], t] W fun e w' => e = .returned (.agg #[x.due.til, x.due.lim, l]) ∧ Below W.heap.size W w') := by
   rw [← hlst]; exact fun W => Zjv x.due t W
  have HL := hid hlst;obtain ⟨t1, ht1⟩ := nE (x.due.til);obtain ⟨t2, ht2⟩ := nE (x.due.lim);obtain ⟨t3, ht3⟩ := nE (x.due.cut);have HT := hid (And.intro ht1 (And.intro ht2 ht3));rw [ht1] at c13 CC;rw [ht2] at c14 CC;rw [ht3] at c15 CC;clear hs h hlst ht1 ht2 ht3 ht;go_enter Tryz.func19, Tryz.ntmps19;go_wp2_with fail;refine CR.mono ?_;rintro en w1 ⟨rfl, rfl⟩;go_wp2_with fail;refine (CC.out _).mono ?_;rintro en wb ⟨rfl, hb⟩;have HB := hid hb;have HBB := hid (HD.blk.below hb HD.lt);have z13 : wb.cell? ⟨d, 13, none⟩ = some (.int .i64 t1) := by rw [← HT.1]; exact HBB.cell 13
  have z14 : wb.cell? ⟨d, 14, none⟩ = some (.int .i64 t2) := by rw [← HT.2.1]; exact HBB.cell 14
  have z15 : wb.cell? ⟨d, 15, none⟩ = some (.int .i64 t3) := by rw [← HT.2.2]; exact HBB.cell 15
  have y13 := HBB.frozen 13; have y14 := HBB.frozen 14; have y15 := HBB.frozen 15;have hlb := HBB.lt;clear hb c13 c14 c15 hl CC;go_wp2_with fail;obtain ⟨wz, hwz⟩ := nE (Mu wb d (.int .i64 t1) (.int .i64 t2) (.int .i64 l));have KZ : Za (fun k => k = d) wb wz := hwz ▸ Gj _ _ _ _ _
  have BZ : Blk wz d 107 ((x.cuts t).cells A c gi gh gp) := by
   rw [← hwz, HE.out, ← HT.1, ← HT.2.1, ← HL.out];exact ((HBB.set 13 _).set 14 _).set 15 _
  unfold Mu at hwz;rw [hwz]
  try go_end0
  have DZ : Zr B F w0 wz d gi gb gh gp F2 A c (x.cuts t) := (HD.below HB.out).turn KZ BZ cn cn cn cn cn cn cn HOK.out;exact ⟨rfl, DZ, (Za.of_below (F := F) HB.out).trans (KZ.mono (fun k _ (e : k = d) => gc) : Za F wb wz) (fun _ h => .inl h)⟩
 ·have CR := hid (Zb8 h hs)
  have HE : Hid (x.cuts t = x) := by unfold Zf.cuts; exact if_pos hs
  clear hs h;go_enter Tryz.func19, Tryz.ntmps19;go_wp2_with fail;refine CR.mono ?_;rintro en w1 ⟨rfl, rfl⟩;go_wp2_with fail
  try go_end0
  rw [HE.out];exact ⟨rfl, HD.out, Za.refl F w⟩
end
section
variable {B d gi gb gh gp c : Nat} {F F2 : Nat → Prop} {w0 w w' : World} {A : Option Addr} {x : Zf}
theorem Zjw (h : Zr B F w0 w d gi gb gh gp F2 A c x) (now : Int) : Calls Tryz.prog 69 #[.pointer (some ⟨d, 0, none⟩), now] w fun e w' => e = .returned (.bool (x.readyM now)) ∧ Below w.heap.size w w' := by
 have HD := hid h;have c13 : w.cell? ⟨d, 13, none⟩ = some (.int .i64 x.due.til) := h.cell 13;have c14 : w.cell? ⟨d, 14, none⟩ = some (.int .i64 x.due.lim) := h.cell 14;have c15 : w.cell? ⟨d, 15, none⟩ = some (.int .i64 x.due.cut) := h.cell 15;have hl := h.lt
 have HE : Hid (x.readyM now = if x.due.over now ≠ 0 then true else if x.op.kind = 1 then decide (x.pd.laid = x.pd.sent) else
  if x.op.kind = 2 then decide (x.seen < x.S.length) || !x.R.isEmpty || x.eof || Ww x.due.til now else if x.op.kind = 4 then Ww x.due.til now else true) := rfl
 have CV : Hid (∀ W, Calls Tryz.prog 111 #[.agg #[x.due.til, x.due.lim, x.due.cut], now] W fun e w' => e = .returned (.tuple #[((x.due.over now : Nat) : Int), .bool (decide (x.due.over now ≠ 0))]) ∧ Below W.heap.size W w') := fun W => Zd4 x.due now W;have CN : Hid (∀ W, Calls Tryz.prog 120 #[.agg #[x.due.til, x.due.lim, x.due.cut], now] W fun e w' => e = .returned (.bool (Ww x.due.til now)) ∧ Below W.heap.size W w') := fun W => Zcu x.due now W;have CO := hid (fun W (hb : Below w.heap.size w W) => Zme (HD.below hb));obtain ⟨dt, hdt⟩ := nE (Ww x.due.til now);obtain ⟨ov, hov⟩ := nE (x.due.over now);obtain ⟨t1, ht1⟩ := nE (x.due.til);obtain ⟨t2, ht2⟩ := nE (x.due.lim);obtain ⟨t3, ht3⟩ := nE (x.due.cut);have HT := hid (And.intro ht1 (And.intro ht2 ht3));rw [hdt, hov] at HE;rw [hov] at CV;rw [hdt] at CN;rw [ht1] at c13 CV CN;rw [ht2] at c14 CV CN;rw [ht3] at c15 CV CN;obtain ⟨R, hR⟩ := nE (x.readyM now);rw [hR] at HE ⊢;clear h hdt hov ht1 ht2 ht3 hR;by_cases ho : ov ≠ 0
 ·rw [decide_eq_true ho] at CV
  have HR : Hid (R = true) := by rw [Hid, HE.out, if_pos ho]
  clear HE ho CO CN;go_enter Tryz.func69, Tryz.ntmps69;go_wp2_with fail;refine (CV.out _).mono ?_;rintro en w1 ⟨rfl, hb1⟩;have HB1 := hid hb1;clear hb1 CV;go_wp2_with fail;go_ret;rw [HR.out];exact ⟨rfl, HB1.out⟩
 have HE2 : Hid (R = if x.op.kind = 1 then decide (x.pd.laid = x.pd.sent) else
  if x.op.kind = 2 then decide (x.seen < x.S.length) || !x.R.isEmpty || x.eof || dt else if x.op.kind = 4 then dt else true) := by rw [Hid, HE.out, if_neg ho]
 rw [decide_eq_false ho] at CV;clear HE ho;go_enter Tryz.func69, Tryz.ntmps69;go_wp2_with fail;refine (CV.out _).mono ?_;rintro en w1 ⟨rfl, hb1⟩;have HB1 := hid hb1;have HD1 := hid (HD.below hb1);have CO1 := hid (CO.out w1 hb1);clear hb1 CV CO c13 c14 c15 hl;go_wp2_with fail;refine CO1.mono ?_;rintro en w2 ⟨v, rfl, ⟨Av, cv, rfl, -⟩, hb2⟩;obtain ⟨na, hna⟩ := nE (x.op.arms.length);rw [hna];clear hna;obtain ⟨o, hoo⟩ := nE (x.op);rw [hoo] at HE2 ⊢;obtain ⟨k, tx, nn, tj, arms, oT, oE⟩ := o;simp only at HE2;have hval : (OpV.mk k tx nn tj arms oT oE).val (.slice Av na cv) = .agg #[k, tx, nn, tj, .slice Av na cv, oT, oE] := rfl;rw [hval];have hfd : ∀ W : World, (Instr.field 56 (.agg #[k, tx, nn, tj, .slice Av na cv, oT, oE]) 0).run Tryz.prog W = .ok (.int .i64 k) W := fun _ => ab
 have HB2 := bt HB1 hb2;have HD2 := hid (HD1.below hb2);clear hb2 hval hoo CO1 HB1 HD1;have c18 : w2.cell? ⟨d, 18, none⟩ = some (.pointer (some ⟨gp, 0, none⟩)) := HD2.cell 18;have c17 : w2.cell? ⟨d, 17, none⟩ = some (.pointer (some ⟨gh, 0, none⟩)) := HD2.cell 17;have hl2 := HD2.lt;by_cases hk1 : k = 1
 ·subst hk1
  have HR : Hid (R = decide (x.pd.laid = x.pd.sent)) := by rw [Hid, HE2.out, if_pos rfl]
  have CP := hid (Zkz gp x.pd w2 HD2.pend);obtain ⟨lf, hlf⟩ := nE ((x.pd.laid : Int) - (x.pd.sent : Int));rw [hlf] at CP
  have HLF : Hid (R = (lf == 0)) := by
   rw [Hid, HR.out, ← hlf, Bool.eq_iff_iff]; simp only [decide_eq_true_eq, beq_iff_eq]; omega
  clear hlf HE2 HR c17 CN;go_wp2_with fail;refine CP.mono ?_;rintro en w3 ⟨rfl, hb3⟩;have HB3 := bt HB2 hb3;clear hb3 CP HB2;go_wp2_with fail;go_ret;rw [HLF.out];exact ⟨rfl, HB3.out⟩
 have HE3 : Hid (R = if k = 2 then decide (x.seen < x.S.length) || !x.R.isEmpty || x.eof || dt else if k = 4 then dt else true) := by rw [Hid, HE2.out, if_neg hk1]
 have hk1f := bF hk1;clear HE2 hk1 c18;by_cases hk2 : k = 2
 ·subst hk2
  have HR : Hid (R = (decide (x.seen < x.S.length) || !x.R.isEmpty || x.eof || dt)) := by rw [Hid, HE3.out, if_pos rfl]
  clear HE3 hk1f;obtain ⟨bs, ps, P, -, hh, -⟩ := HD2.hold;have CF := hid (Zjo bs gh x.s.win.toNat x.seen F2 x.S ps P w2 hh);have hsn : x.seen ≤ x.S.length := by obtain ⟨h0, h1, h2, h3, h4, -⟩ := hh; exact h4
  obtain ⟨fr, hfr⟩ : ∃ y : Int, (x.S.length : Int) - (x.seen : Int) = y := ⟨_, rfl⟩;rw [hfr] at CF;clear hh;by_cases hf : 0 < fr
  ·have HR2 : Hid (R = true) := by rw [Hid, HR.out, decide_eq_true aa]; rfl
   clear hfr hsn HR CN;go_wp2_with fail;refine CF.mono ?_;rintro en w3 ⟨rfl, hb3⟩;have HB3 := bt HB2 hb3;clear hb3 CF HB2;go_wp2_with fail;go_ret;rw [HR2.out];exact ⟨rfl, HB3.out⟩
  ·have HR2 : Hid (R = (!x.R.isEmpty || x.eof || dt)) := by rw [Hid, HR.out, decide_eq_false aa, Bool.false_or]
   clear hfr hsn HR;obtain ⟨rl, hrl⟩ := nE (x.R.length);have HC16 : Hid (∀ W, Below w2.heap.size w2 W → W.cell? ⟨d, 16, none⟩ = some (.pointer (some ⟨gi, 0, none⟩))) := fun W hb => (HD2.below hb).cell 16;have HC19 : Hid (∀ W, Below w2.heap.size w2 W → W.cell? ⟨d, 19, none⟩ = some (.bool x.eof)) := fun W hb => (HD2.below hb).cell 19
   have CL : Hid (∀ W, Below w2.heap.size w2 W → Calls Tryz.prog 81 #[.pointer (some ⟨gi, 0, none⟩)] W fun e w' => e = .returned (rl : Int) ∧ W = w') := by
    rw [← hrl]; exact fun W hb => Zgj W gi gb x.s.ring.toNat x.R (HD2.below hb).ring
   go_wp2_with fail;refine CF.mono ?_;rintro en w3 ⟨rfl, hb3⟩;have HB3' := hid hb3;have HB3 := bt HB2 hb3;have c16 := HC16.out w3 hb3;have c19 := HC19.out w3 hb3;have hl3 := Nat.lt_of_lt_of_le hl2 hb3.size;have CL3 := hid (CL.out w3 hb3);clear hb3 CF HB2 CL HC16 HC19;go_wp2_with fail;refine CL3.mono ?_;rintro en w3 ⟨rfl, rfl⟩;by_cases hr0 : 0 < rl
   ·have HR3 : Hid (R = true) := by
     rw [Hid, HR2.out];have : x.R.isEmpty = false := by cases hx : x.R with | nil => rw [hx] at hrl; simp at hrl; omega | cons a l => rfl
     rw [this]; rfl
    have hr0' : (0 : Int) < (rl : Int) := aa
    clear hrl HR2 CL3;go_wp2_with fail;go_ret;rw [HR3.out];exact ⟨rfl, HB3.out⟩
   ·have HR3 : Hid (R = (x.eof || dt)) := by
     rw [Hid, HR2.out];have : x.R = [] := List.eq_nil_of_length_eq_zero aa;rw [this]; rfl
    have hr0' : ¬ (0 : Int) < (rl : Int) := aa
    clear hrl HR2 CL3;cases he : x.eof
    ·rw [he] at c19 HR3
     have HR4 : Hid (R = dt) := HR3.out;have HD3 := hid (HD2.below HB3'.out);have c13 : w3.cell? ⟨d, 13, none⟩ = some (.int .i64 t1) := by rw [← HT.1]; exact HD3.cell 13
     have c14 : w3.cell? ⟨d, 14, none⟩ = some (.int .i64 t2) := by rw [← HT.2.1]; exact HD3.cell 14
     have c15 : w3.cell? ⟨d, 15, none⟩ = some (.int .i64 t3) := by rw [← HT.2.2]; exact HD3.cell 15
     clear HR3 he;go_wp2_with fail;refine (CN.out _).mono ?_;rintro en w4 ⟨rfl, hb4⟩;have HB4 := bt HB3 hb4;clear hb4;go_wp2_with fail;go_ret;rw [HR4.out];exact ⟨rfl, HB4.out⟩
    ·rw [he] at c19 HR3
     clear he;go_wp2_with fail;go_ret;rw [HR3.out];exact ⟨rfl, HB3.out⟩
 have HE4 : Hid (R = if k = 4 then dt else true) := by rw [Hid, HE3.out, if_neg hk2]
 have hk2f := bF hk2;clear HE3 hk2 c17;have c13 : w2.cell? ⟨d, 13, none⟩ = some (.int .i64 t1) := by rw [← HT.1]; exact HD2.cell 13
 have c14 : w2.cell? ⟨d, 14, none⟩ = some (.int .i64 t2) := by rw [← HT.2.1]; exact HD2.cell 14
 have c15 : w2.cell? ⟨d, 15, none⟩ = some (.int .i64 t3) := by rw [← HT.2.2]; exact HD2.cell 15
 by_cases hk4 : k = 4
 ·subst hk4
  have HR : Hid (R = dt) := by rw [Hid, HE4.out, if_pos rfl]
  clear HE4 hk1f hk2f;go_wp2_with fail;refine (CN.out _).mono ?_;rintro en w4 ⟨rfl, hb4⟩;have HB4 := bt HB2 hb4;clear hb4;go_wp2_with fail;go_ret;rw [HR.out];exact ⟨rfl, HB4.out⟩
 have HR : Hid (R = true) := by rw [Hid, HE4.out, if_neg hk4]
 have hk4f := bF hk4;clear HE4 hk4;go_wp2_with fail;go_ret;rw [HR.out];exact ⟨rfl, HB2.out⟩
end
section
variable {B d gi gb gh gp c : Nat} {F F2 : Nat → Prop} {w0 w w' : World} {A : Option Addr} {x : Zf}
theorem Zlr (h : Zr B F w0 w d gi gb gh gp F2 A c x) (now : Int) : Calls Tryz.prog 23 #[.pointer (some ⟨d, 0, none⟩), now] w fun e w' => e = .returned (.bool (x.ready now)) ∧ Below w.heap.size w w' := by
 have HD := hid h;have c20 : w.cell? ⟨d, 20, none⟩ = some (.int .i64 x.now) := h.cell 20;have hl := h.lt;by_cases hs : x.st = 0
 ·have CR := hid (Zab h hs)
  have HE : Hid (x.ready now = x.readyM (max now x.now)) := by rw [Hid, Zf.ready, decide_eq_true hs, Bool.true_and]
  have C0 := hid (Zjw h (max now x.now));obtain ⟨m, hm⟩ := nE (x.now);rw [hm] at c20 HE C0;obtain ⟨R, hR⟩ := nE (x.ready now);rw [hR] at HE ⊢;rw [← HE.out] at C0;clear h hs hm hR HE;go_enter Tryz.func23, Tryz.ntmps23;go_wp2_with fail;refine CR.mono ?_;rintro en w1 ⟨rfl, rfl⟩;go_wp2_with fail;refine C0.mono ?_;rintro en w1 ⟨rfl, hb1⟩;have HB1 := hid hb1;clear hb1;go_wp2_with fail;go_ret;exact ⟨rfl, HB1.out⟩
 ·have CR := hid (Zb8 h hs)
  have HE : Hid (x.ready now = false) := by rw [Hid, Zf.ready, decide_eq_false hs]; rfl
  clear hs h;go_enter Tryz.func23, Tryz.ntmps23;go_wp2_with fail;refine CR.mono ?_;rintro en w1 ⟨rfl, rfl⟩;go_wp2_with fail;go_ret;rw [HE.out];exact ⟨rfl, Below.refl _ _⟩
end
end Go.Proofs.YtpkkfdmhbbipoaaGreat
