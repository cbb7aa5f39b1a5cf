/- DialSends: for all plays the law answers true. No condition. -/
import Derived.Test.YtpkkfdmhbbipoaaGreatRh
import Derived.Test.YtpkkfdmhbbipoaaGreatEb
import Derived.Test.YtpkkfdmhbbipoaaGreatDl
import Derived.Deep.CutBlock
import Derived.Deep.DeepCutAuto
import Derived.Test.YtpkkfdmhbbipoaaGreatMi
namespace Go.Proofs.YtpkkfdmhbbipoaaGreat
open Go.RowKit PopT
theorem PlayOk.below {w w' : World} {x : PlayV} {A B : Option Addr} {k : Nat} (h : PlayOk w x A B k) (hb : Below w.heap.size w w') : PlayOk w' x A B k := by
 obtain ⟨h1, h2, h3, h4, h5, h6, h7, h8⟩ := h
 exact ⟨h1.below hb, h2, h3, h4.below hb, h5, h6, h7, h8⟩
theorem Tryz.sizePlay : (Tryz.prog.info? 29).map (·.size) = some 13 := by kernel_rfl
structure LoopD (B d : Nat) (F0 : Nat → Prop) (w0 w6 : World) (pf : ProgV) (wr : World) (x : DialV) (F : Nat → Prop) : Prop where
 dial : DialAt B F w0 wr d x
 keep : Keep F0 w6 wr
 sub : ∀ k, F k → F0 k ∨ w6.heap.size ≤ k
 fit : Fit x
 prog : x.p = pf
section
variable {B d : Nat} {F0 F : Nat → Prop} {w0 w6 wr w' : World} {pf : ProgV} {x y : DialV}
theorem LoopD.next (h : LoopD B d F0 w0 w6 pf wr x F) (hd : DialAt B (Fup F wr w') w0 w' d y) (hk : Keep F wr w') (hf : Fit y) (hp : y.p = x.p) : LoopD B d F0 w0 w6 pf w' y (Fup F wr w') := by
 refine ⟨hd, h.keep.trans hk h.sub, ?_, hf, hp.trans h.prog⟩
 rintro k (hk2 | hk2)
 ·exact h.sub k hk2
 ·exact .inr (Nat.le_trans h.keep.size hk2.1)
theorem LoopD.below (h : LoopD B d F0 w0 w6 pf wr x F) (hb : Below wr.heap.size wr w') : LoopD B d F0 w0 w6 pf w' x F :=
 ⟨h.dial.below hb, h.keep.trans (Keep.of_below (F := F0) hb) (fun _ => .inl), h.sub, h.fit, h.prog⟩
end
theorem sext_left {gb sb pt : ByteArray} (h : gb = sb ++ pt) : gb.extract 0 sb.size = sb := by
 subst h; apply ByteArray.ext; simp
theorem sext_right {gb sb pt : ByteArray} (h : gb = sb ++ pt) : gb.extract sb.size gb.size = pt := by
 subst h
 apply ByteArray.ext
 have h1 : sb.size = sb.data.toList.length := by rw [Array.length_toList]; rfl
 have h2 : pt.size = pt.data.toList.length := by rw [Array.length_toList]; rfl
 simp only [ByteArray.data_extract, ByteArray.data_append, ByteArray.size_append]
 apply Array.toList_inj.1
 simp
 rw [List.drop_of_length_le (by omega), List.take_nil, List.nil_append, List.take_of_length_le (by omega)]
theorem sext_le {gb sb pt : ByteArray} (h : gb = sb ++ pt) : (sb.size : Int) ≤ (gb.size : Int) := by
 subst h; rw [ByteArray.size_append]; omega
theorem sendI_size {B d : Nat} {F0 F : Nat → Prop} {w0 w6 wr : World} {pf : ProgV} {x : DialV} {sb pt : ByteArray} (h : LoopD B d F0 w0 w6 pf wr x F) (hs : SendI x sb pt) : pt.size ≤ 256 := by
 by_cases h0 : pt.size = 0
 ·omega
 ·obtain ⟨h1, h2, -⟩ := hs.rest h0
  have := opE_text _ _ (op_good x h.dial.ok h1).1
  omega
set_option maxRecDepth 20000 in
set_option maxHeartbeats 16000000 in
theorem dialSends_any (A : Option Addr) (c : Nat) (B : Option Addr) (k : Nat) (x : PlayV) (w : World) (hx : PlayOk w x A B k) :
  Calls Tryz.prog 3 #[x.val A c B k] w fun e w' => e = .returned (.bool true) ∧ Below w.heap.size w w' := by
 have CSM : Hid (∀ W, Calls Tryz.prog 12 #[x.s.val] W fun e w' => e = .returned (.bool (smallM x.s)) ∧ Below W.heap.size W w') := fun W => small22_any x.s W
 have CBG : Hid (∀ W, Below w.heap.size w W → Calls Tryz.prog 14 #[x.val A c B k] W fun e w' => BeginQ x.s (fewP x.p 9) x.now W e w') := fun W hb => begin_any x A c B k W (hx.below hb)
 have CFI : Hid (∀ W, Below w.heap.size w W → Calls Tryz.prog 15 #[.slice B x.l.length k, .int .i64 40] W fun e w' => ∃ g c', e = .returned (.slice (some ⟨g, 0, none⟩) (fewI x.l 40).length c') ∧ w'.ownsRow W.heap.size 46 4 (.slice (some ⟨g, 0, none⟩) (fewI x.l 40).length c') (fewI x.l 40).length (inVCells (fewI x.l 40)) ∧ Below W.heap.size W w') := fun W hb =>
  few22_any B x.l.length k x.l 40 W rfl (hx.rd.below hb) hx.iok (by omega)
 have CLV := hid (fun W => lives22_any W)
 have HIO : Hid (∀ i ∈ fewI x.l 40, i.ok) := fewI_ok hx.iok 40
 have HLI : Hid ((fewI x.l 40).length ≤ 40) := fewI_length x.l 40
 have HTX : Hid (erOf x.s (fewP x.p 9) = 0 → (wrongM (fewP x.p 9)).2 = 0) := fun h => by unfold erOf at h; split at h; cases h; split at h; cases h; rename_i h2; omega
 have HFT : Hid ((wrongM (fewP x.p 9)).2 = 0 → ∀ q, q < (fewP x.p 9).ops.length → q < x.p.ops.length ∧ ((fewP x.p 9).ops.getD q dNone).text = (x.p.ops.getD q dNone).text ∧ (x.p.ops.getD q dNone).text.size ≤ 256) := fun h q hq => by
  have h1 := few_text h hq
  refine ⟨h1.1, h1.2, ?_⟩
  rw [← h1.2, List.getD_eq_getElem?_getD, List.getElem?_eq_getElem hq]
  exact opE_text _ _ ((wrongM_zero _ h).2.2 _ (List.getElem_mem hq))
 have HNV : Hid (erOf x.s (fewP x.p 9) = 0 → Fit ((newV x.s (fewP x.p 9) x.now).come 0)) := fun h => by
  refine fit_new (newV_ok _ _ _ ?_ ?_ (fewP_ok x.p 9 hx.pok) hx.now)
  ·unfold erOf at h; split at h; cases h; rename_i h2; simpa using h2
  ·unfold erOf at h; split at h; cases h; split at h; cases h; rename_i h2; omega
 have HOPS := hid hx.ops
 obtain ⟨s, p, now, l, ask⟩ := x
 unfold PlayV.val
 unfold PlayV.val at CBG
 simp only at CSM CBG CFI HIO HLI HTX HFT HOPS HNV ⊢
 obtain ⟨n, hnn⟩ : ∃ y, l.length = y := ⟨_, rfl⟩
 obtain ⟨m, hmm⟩ : ∃ y, p.ops.length = y := ⟨_, rfl⟩
 have HM := hid hmm
 obtain ⟨pf, hpf⟩ : ∃ y, fewP p 9 = y := ⟨_, rfl⟩
 obtain ⟨li, hli⟩ : ∃ y, fewI l 40 = y := ⟨_, rfl⟩
 rw [hnn, hmm] at CBG
 rw [hnn, hli] at CFI
 rw [hli] at HIO HLI
 rw [hmm] at HFT
 rw [hpf] at CBG HTX HFT HNV
 rw [hnn, hmm]
 clear hnn hmm hpf hli hx
 obtain ⟨ql, hql⟩ : ∃ y, li.length = y := ⟨_, rfl⟩
 have HQL := hid hql
 rw [hql] at CFI HLI
 clear hql
 obtain ⟨er, her⟩ : ∃ y, erOf s pf = y := ⟨_, rfl⟩
 have HER := hid her
 rw [her] at HTX HNV
 obtain ⟨X0, hX0⟩ : ∃ y, (newV s pf now).come 0 = y := ⟨_, rfl⟩
 have HX0 : Hid (X0.p = pf ∧ SendI X0 ⟨#[]⟩ ⟨#[]⟩ ∧ (DialOk (newV s pf now) → Fit X0)) := by
  rw [← hX0]; exact ⟨come_p _ _, sendI_come 0 rfl, fun h => fit_new h⟩
 have HBQ : Hid (∀ W e w', BeginQ s pf now W e w' → Below W.heap.size W w' ∧ ∃ (q : Option Addr) (cs : List Value) (ok : Bool), e = .returned (.tuple #[.pointer q, .agg cs.toArray, .bool ok]) ∧ cs.length = 28 ∧ cs.toArray.all (·.oneCell') = true ∧ ok = decide (er = 0) ∧
   (ok = true → ∃ w0 d B F, q = some ⟨d, 0, none⟩ ∧ W.heap.size ≤ B ∧ DialAt B F w0 w' d X0)) := fun W e w' h => by
  obtain ⟨h1, q, cs, ok, h2, h3, h4, h5, h6⟩ := h
  refine ⟨h1, q, cs, ok, h2, h3, h4, by rw [h5, her], fun h => ?_⟩
  obtain ⟨w0, d, B, F, a1, a2, a3, -⟩ := h6 h
  exact ⟨w0, d, B, F, a1, a2, by rw [← hX0]; exact a3⟩
 rw [hX0] at HNV
 clear her hX0
 obtain ⟨sm, hsm⟩ : ∃ y, smallM s = y := ⟨_, rfl⟩
 rw [hsm] at CSM
 clear hsm
 obtain ⟨lv, rg, wn, ou, qu, vi⟩ := s
 obtain ⟨nm, dl, jp, ops⟩ := p
 unfold SetV.val at CSM
 simp only at CSM CBG HOPS HM HFT ⊢
 obtain ⟨BQ, hBQ⟩ : ∃ f : World → Ending → World → Prop, BeginQ ⟨lv, rg, wn, ou, qu, vi⟩ pf now = f := ⟨_, rfl⟩
 rw [hBQ] at CBG HBQ
 clear hBQ HER
 go_enter Tryz.func3, Tryz.ntmps3
 go_upto_region 1 with fail
 generalize hwz : w.alloc (.cells #[.int .i64 lv, .int .i64 rg, .int .i64 wn, .int .i64 ou, .int .i64 qu, .int .i64 vi, .string nm, .int .i64 dl, .int .i64 jp, .slice A m c, .int .i64 now, .slice B n k, .int .i64 ask] 29) = wz
 have HXX : Hid (Blk wz w.heap.size 29 #[.int .i64 lv, .int .i64 rg, .int .i64 wn, .int .i64 ou, .int .i64 qu, .int .i64 vi, .string nm, .int .i64 dl, .int .i64 jp, .slice A m c, .int .i64 now, .slice B n k, .int .i64 ask]) := by rw [← hwz]; exact Blk.new w _ _
 have HB : Hid (Below w.heap.size w wz) := by rw [← hwz]; exact (Below.refl _ _).alloc (Nat.le_refl _) _
 obtain ⟨gx, hgx⟩ : ∃ y, w.heap.size = y := ⟨_, rfl⟩
 have HGX := hid hgx
 rw [hgx] at HXX ⊢
 clear hwz hgx
 have x0 : wz.cell? ⟨gx, 0, none⟩ = some (.int .i64 lv) := HXX.out.cell 0
 have x1 : wz.cell? ⟨gx, 1, none⟩ = some (.int .i64 rg) := HXX.out.cell 1
 have x2 : wz.cell? ⟨gx, 2, none⟩ = some (.int .i64 wn) := HXX.out.cell 2
 have x3 : wz.cell? ⟨gx, 3, none⟩ = some (.int .i64 ou) := HXX.out.cell 3
 have x4 : wz.cell? ⟨gx, 4, none⟩ = some (.int .i64 qu) := HXX.out.cell 4
 have x5 : wz.cell? ⟨gx, 5, none⟩ = some (.int .i64 vi) := HXX.out.cell 5
 have xl := HXX.out.lt
 go_wp2_with fail
 refine (CSM.out _).mono ?_
 rintro en w1 ⟨rfl, hb⟩
 have HX1 := hid (HXX.out.below hb HXX.out.lt)
 have HB1 : Hid (Below w.heap.size w w1) := HB.out.trans (hb.mono HB.out.size)
 clear hb x0 x1 x2 x3 x4 x5 xl HXX HB CSM
 cases sm
 ·go_wp2_with fail
  refine (CLV.out _).mono ?_
  rintro en w2 ⟨rfl, hb⟩
  have HB2 := hid (HB1.out.trans (hb.mono HB1.out.size))
  clear hb
  go_wp2_with fail
  go_ret
  exact ⟨rfl, HB2.out⟩
 have CB := hid (CBG.out w1 HB1.out)
 clear CBG
 go_wp2_with (refine wpList_load_mid rfl 29 _ rfl gx 0 rfl _ _ (Blk.range HX1.out) Tryz.underlying29 rfl Tryz.sizePlay ?_)
 refine CB.out.mono ?_
 intro en w2 hq
 obtain ⟨hb, q, cs, ok, rfl, hl, ha, hok, hd⟩ := HBQ.out _ _ _ hq
 have HL := hid hl; have HA := hid ha; have HOK := hid hok; have HDD := hid hd
 have HX2 := hid (HX1.out.below hb HX1.out.lt)
 have HB2 : Hid (Below w.heap.size w w2) := HB1.out.trans (hb.mono HB1.out.size)
 have HS12 : Hid (gx < w1.heap.size ∧ w.heap.size ≤ w1.heap.size) := ⟨HX1.out.lt, HB1.out.size⟩
 clear hb hl ha hok hd hq CB HX1 HB1 HBQ
 have HSZ1 : Hid ((Tryz.prog.info? 41).map (·.size) = some cs.toArray.size) := by rw [Hid, Tryz.sizeD, List.size_toArray, HL.out]
 have HSZ2 : Hid ((#[.int .i64 0, .int .i64 0, .int .i64 0, .int .i64 0, .int .i64 0, .int .i64 0, .string ⟨#[]⟩, .int .i64 0, .int .i64 0, .slice none 0 0, .int .i64 0, .int .i64 0, .int .i64 0, .int .i64 0, .int .i64 0, .int .i64 0, .string ⟨#[]⟩, .int .i64 0, .string ⟨#[]⟩, .int .i64 0, .slice none 0 0, .string ⟨#[]⟩, .string ⟨#[]⟩, .string ⟨#[]⟩, .int .i64 0, .int .i64 0, .bool false, .int .i64 0] : Array Value).size = cs.toArray.size) := by
  have h28 : cs.toArray.size = 28 := by rw [List.size_toArray, HL.out]
  rw [Hid, h28]; rfl
 have HGQ : Hid (Blk (w2.alloc (.cells #[.int .i64 0, .int .i64 0, .int .i64 0, .int .i64 0, .int .i64 0, .int .i64 0, .string ⟨#[]⟩, .int .i64 0, .int .i64 0, .slice none 0 0, .int .i64 0, .int .i64 0, .int .i64 0, .int .i64 0, .int .i64 0, .int .i64 0, .string ⟨#[]⟩, .int .i64 0, .string ⟨#[]⟩, .int .i64 0, .slice none 0 0, .string ⟨#[]⟩, .string ⟨#[]⟩, .string ⟨#[]⟩, .int .i64 0, .int .i64 0, .bool false, .int .i64 0] 41)) w2.heap.size 41 #[.int .i64 0, .int .i64 0, .int .i64 0, .int .i64 0, .int .i64 0, .int .i64 0, .string ⟨#[]⟩, .int .i64 0, .int .i64 0, .slice none 0 0, .int .i64 0, .int .i64 0, .int .i64 0, .int .i64 0, .int .i64 0, .int .i64 0, .string ⟨#[]⟩, .int .i64 0, .string ⟨#[]⟩, .int .i64 0, .slice none 0 0, .string ⟨#[]⟩, .string ⟨#[]⟩, .string ⟨#[]⟩, .int .i64 0, .int .i64 0, .bool false, .int .i64 0]) := Blk.new w2 _ _
 go_upto_region 4 with (refine wpList_store_row rfl 41 _ _ rfl w2.heap.size cs.toArray rfl rfl 41 _ HGQ.out HSZ1.out HSZ2.out HA.out ?_)
 obtain ⟨w3, hw3⟩ : ∃ W, (w2.alloc (.cells #[.int .i64 0, .int .i64 0, .int .i64 0, .int .i64 0, .int .i64 0, .int .i64 0, .string ⟨#[]⟩, .int .i64 0, .int .i64 0, .slice none 0 0, .int .i64 0, .int .i64 0, .int .i64 0, .int .i64 0, .int .i64 0, .int .i64 0, .string ⟨#[]⟩, .int .i64 0, .string ⟨#[]⟩, .int .i64 0, .slice none 0 0, .string ⟨#[]⟩, .string ⟨#[]⟩, .string ⟨#[]⟩, .int .i64 0, .int .i64 0, .bool false, .int .i64 0] 41)).setRow w2.heap.size cs.toArray = W := ⟨_, rfl⟩
 have HBW : Hid (Below w2.heap.size w2 w3) := by
  rw [← hw3]
  have h1 : Below w2.heap.size w2 (w2.alloc (.cells #[.int .i64 0, .int .i64 0, .int .i64 0, .int .i64 0, .int .i64 0, .int .i64 0, .string ⟨#[]⟩, .int .i64 0, .int .i64 0, .slice none 0 0, .int .i64 0, .int .i64 0, .int .i64 0, .int .i64 0, .int .i64 0, .int .i64 0, .string ⟨#[]⟩, .int .i64 0, .string ⟨#[]⟩, .int .i64 0, .slice none 0 0, .string ⟨#[]⟩, .string ⟨#[]⟩, .string ⟨#[]⟩, .int .i64 0, .int .i64 0, .bool false, .int .i64 0] 41)) := (Below.refl _ _).alloc (Nat.le_refl _) _
  exact h1.trans ((Keep.setRow (fun k => k = w2.heap.size) _ _ _ rfl).below h1.size (fun k (e : k = w2.heap.size) => by rw [e]; exact Nat.le_refl _))
 rw [hw3]
 clear hw3 HSZ1 HSZ2 HGQ HL HA
 have HX3 := hid (HX2.out.below HBW.out HX2.out.lt)
 have HB3 : Hid (Below w.heap.size w w3) := HB2.out.trans (HBW.out.mono HB2.out.size)
 cases ok
 ·go_wp2_with fail
  refine (CLV.out _).mono ?_
  rintro en w4 ⟨rfl, hb⟩
  have HB4 := hid (HB3.out.trans (hb.mono HB3.out.size))
  clear hb
  go_wp2_with fail
  go_ret
  exact ⟨rfl, HB4.out⟩
 have her : er = 0 := by have := HOK.out; simpa using this.symm
 subst her
 have HWR := hid (HTX.out rfl)
 have HFT2 := hid (HFT.out HWR.out)
 have HF0 := hid (HNV.out rfl)
 obtain ⟨w0, d, B0, F0, rfl, hB, hd⟩ := HDD.out rfl
 have HD3 := hid (hd.below HBW.out)
 have HBB : Hid (w1.heap.size ≤ B0 ∧ B0 ≤ w3.heap.size) := ⟨hB, (hd.below HBW.out).base⟩
 clear hB hd HDD HOK HTX HFT HNV HBW HX2 HB2
 have x11 : w3.cell? ⟨gx, 11, none⟩ = some (.slice B n k) := HX3.out.cell 11
 have xl := HX3.out.lt
 go_wp2_with fail
 refine (CFI.out w3 HB3.out).mono ?_
 rintro en w6 ⟨g, c6, rfl, hown, hb⟩
 have HX6 := hid (HX3.out.below hb HX3.out.lt)
 have HB6 : Hid (Below w.heap.size w w6) := HB3.out.trans (hb.mono HB3.out.size)
 have HD6 := hid (HD3.out.below hb)
 have HNF : Hid (∀ k, F0 k → B0 ≤ k ∧ k < w3.heap.size) := HD3.out.fin
 have HRD6 : Hid (Rd w6 (some ⟨g, 0, none⟩) (inVCells li)) := Rd_of_own hown
 have HG6 : Hid (w3.heap.size ≤ g ∧ g < w6.heap.size) := hown.lt g rfl
 have HS36 : Hid (w3.heap.size ≤ w6.heap.size) := hb.size
 clear hown hb x11 xl HX3 HB3 HD3 CFI
 go_wp2_with fail
 go_loopw [9, 6, 7] (fun iv s6 s7 wr => ∃ (i : Nat) (x : DialV) (F : Nat → Prop) (sb gb pt : ByteArray), i ≤ ql ∧ iv = .int .i64 (i : Int) ∧ s6 = .string sb ∧ s7 = .string gb ∧ gb = sb ++ pt ∧ sb.size ≤ 256 * i ∧ SendI x sb pt ∧ LoopD B0 d F0 w0 w6 pf wr x F) (fun iv _ _ _ => ql - (intOf iv).toNat)
 case atStart => exact ⟨0, X0, F0, ⟨#[]⟩, ⟨#[]⟩, ⟨#[]⟩, by omega, rfl, rfl, rfl, rfl, Nat.zero_le _, HX0.out.2.1, HD6.out, Keep.refl _ _, fun _ h => .inl h, HF0.out, HX0.out.1⟩
 case round =>
  obtain ⟨i, x, F, sb, gb, pt, hi, rfl, rfl, rfl, hgb, hsb, hsi, hlp⟩ := hrel
  have HGB := hid hgb; have HSB := hid hsb; have HSI := hid hsi; have HLP := hid hlp
  clear hgb hsb hsi hlp HD6 HF0
  by_cases hlt : i < ql
  ·have hli : i < li.length := by rw [HQL.out]; exact hlt
   have hget : li[i]? = some (li[i]'hli) := List.getElem?_eq_getElem hli
   have hII := HIO.out _ (List.getElem_mem hli)
   obtain ⟨iv, hiv⟩ : ∃ y, li[i]'hli = y := ⟨_, rfl⟩
   rw [hiv] at hget hII
   obtain ⟨bl, off, hA, hbl, hcc⟩ := (HLP.out.keep.rd HRD6.out (fun a ha (hf : F0 a.block) => by
    injection ha with ha; subst ha
    have h1 := HNF.out _ hf; have h2 := HG6.out; simp only at h1; omega)).at (by rw [inVCells_length]; omega)
   injection hA with hA
   injection hA with hA1 hA2
   subst hA1; subst hA2
   have hc : ∀ j u, j < 4 → iv.cells[j]? = some u → wr.cell? ⟨g, 0 + (i * 4 + j), none⟩ = some u := fun j u hj hu => hcc _ u ((inV_at li i iv hget j hj).trans hu)
   obtain ⟨ik, ib, inn, it⟩ := iv
   have c0 := hc 0 _ (by omega) rfl
   have c1 := hc 1 _ (by omega) rfl
   have c2 := hc 2 _ (by omega) rfl
   have c3 := hc 3 _ (by omega) rfl
   simp only [Nat.add_zero, ← Nat.add_assoc, Nat.zero_add] at c0 c1 c2 c3
   have HII : Hid (ib.size ≤ 9223372036854775807 ∧ I6 inn ∧ I6 it) := hII
   have hi2 : (i : Int) < (ql : Int) := by omega
   have hi40 : i ≤ 1000 := by have := HLI.out; omega
   have HBR : Hid (Below w.heap.size w wr) := HB6.out.trans (HLP.out.keep.below HB6.out.size (fun k hk => by have := HNF.out k hk; have := HBB.out; have := HS12.out; omega))
   clear hget hII hiv hcc hc hli
   have HPD := hid HLP.out.dial.pdOk
   go_upto_block 2 with fail
   go_cut [6, 7] (fun s6 s7 wx => ∃ (x2 : DialV) (F2 : Nat → Prop) (sb2 gb2 pt2 : ByteArray), s6 = .string sb2 ∧ s7 = .string gb2 ∧ gb2 = sb2 ++ pt2 ∧ sb2.size ≤ 256 * (i + 1) ∧ SendI x2 sb2 pt2 ∧ LoopD B0 d F0 w0 w6 pf wx x2 F2)
   case first =>
    rcases Decidable.em (ik = 1) with k1 | k1
    case' inl =>
     have b1 : (ik == 1) = true := by rw [beq_iff_eq]; exact k1
     have CP := hid (aPut HLP.out.dial ib HII.out.1)
     clear k1
     go_wp2_with fail
     refine CP.out.mono ?_
     rintro en w7 ⟨rfl, hd, hk⟩
     obtain ⟨x2, hx2⟩ : ∃ y, (x.put ib).1 = y := ⟨_, rfl⟩
     have HLN : Hid (LoopD B0 d F0 w0 w6 pf w7 x2 (Fup F wr w7)) := by rw [← hx2]; exact HLP.out.next hd hk (fit_put HLP.out.fit _) (put_p _ _)
     have HSN : Hid (SendI x2 sb pt) := by rw [← hx2]; exact sendI_put HSI.out _
     obtain ⟨F2, hF2⟩ : ∃ y, y = Fup F wr w7 := ⟨_, rfl⟩
     rw [← hF2] at HLN
     clear hF2
     obtain ⟨gb2, hgb2⟩ : ∃ y, y = gb := ⟨_, rfl⟩
     obtain ⟨pt2, hpt2⟩ : ∃ y, y = pt := ⟨_, rfl⟩
     obtain ⟨sb2, hsb2⟩ : ∃ y, y = sb := ⟨_, rfl⟩
     subst hgb2; subst hpt2; subst hsb2
     have HGN := hid HGB.out
     have HSB2 : Hid (sb2.size ≤ 256 * (i + 1)) := by have := HSB.out; rw [Hid]; omega
     clear hx2 hd hk CP b1
     go_wp2_with fail
     go_meet
    case' inr =>
     have b1 : (ik == 1) = false := by rw [beq_eq_false_iff_ne]; exact k1
     rcases Decidable.em (ik = 2) with k2 | k2
     case' inl =>
      have b2 : (ik == 2) = true := by rw [beq_iff_eq]; exact k2
      have CP := hid (aEof HLP.out.dial)
      clear k1 k2
      go_wp2_with fail
      refine CP.out.mono ?_
      rintro en w7 ⟨rfl, hd, hk⟩
      obtain ⟨x2, hx2⟩ : ∃ y, x.ends = y := ⟨_, rfl⟩
      have HLN : Hid (LoopD B0 d F0 w0 w6 pf w7 x2 (Fup F wr w7)) := by rw [← hx2]; exact HLP.out.next hd hk (fit_ends HLP.out.fit) (ends_p _)
      have HSN : Hid (SendI x2 sb pt) := by rw [← hx2]; exact sendI_ends HSI.out
      obtain ⟨F2, hF2⟩ : ∃ y, y = Fup F wr w7 := ⟨_, rfl⟩
      rw [← hF2] at HLN
      clear hF2
      obtain ⟨gb2, hgb2⟩ : ∃ y, y = gb := ⟨_, rfl⟩
      obtain ⟨pt2, hpt2⟩ : ∃ y, y = pt := ⟨_, rfl⟩
      obtain ⟨sb2, hsb2⟩ : ∃ y, y = sb := ⟨_, rfl⟩
      subst hgb2; subst hpt2; subst hsb2
      have HGN := hid HGB.out
      have HSB2 : Hid (sb2.size ≤ 256 * (i + 1)) := by have := HSB.out; rw [Hid]; omega
      clear hx2 hd hk CP b1 b2
      go_wp2_with fail
      go_meet
     case' inr =>
      have b2 : (ik == 2) = false := by rw [beq_eq_false_iff_ne]; exact k2
      rcases Decidable.em (ik = 3) with k3 | k3
      case' inl =>
       have b3 : (ik == 3) = true := by rw [beq_iff_eq]; exact k3
       have CP := hid (aTake HLP.out.dial inn)
       obtain ⟨tk, htk⟩ : ∃ y, x.took inn = y := ⟨_, rfl⟩
       have HTK := hid htk
       rw [htk] at CP
       have HSZT : Hid (tk.size ≤ 256) := by
        have h1 := HPD.out.1; have h2 := HPD.out.2; have h3 := HLP.out.fit.2
        rw [Hid, ← htk]; unfold DialV.took
        split
        ·exact Nat.zero_le _
        ·unfold PendV.took PendV.takeN; simp only [ByteArray.size_extract]; omega
       have hgs : gb.size ≤ 1000000 := by
        have h1 := sendI_size HLP.out HSI.out; have h2 := HSB.out; have h3 := HLI.out
        rw [HGB.out, ByteArray.size_append]; omega
       have hadd := fun (W : World) => run_string_add (P := Tryz.prog) W gb tk (by omega) (by have := HSZT.out; omega)
       clear k1 k2 k3 htk
       go_wp2_with fail
       refine CP.out.mono ?_
       rintro en w7 ⟨rfl, hd, hk⟩
       obtain ⟨x2, hx2⟩ : ∃ y, x.take inn = y := ⟨_, rfl⟩
       have HLN : Hid (LoopD B0 d F0 w0 w6 pf w7 x2 (Fup F wr w7)) := by rw [← hx2]; exact HLP.out.next hd hk (fit_take HLP.out.fit _) (take_p _ _)
       have HSN0 : Hid (SendI x2 sb (pt ++ tk)) := by rw [← hx2, ← HTK.out]; exact sendI_take HSI.out HPD.out _
       obtain ⟨pt2, hpt2⟩ : ∃ y, pt ++ tk = y := ⟨_, rfl⟩
       obtain ⟨gb2, hgb2⟩ : ∃ y, gb ++ tk = y := ⟨_, rfl⟩
       have HSN : Hid (SendI x2 sb pt2) := by rw [← hpt2]; exact HSN0.out
       have HGN : Hid (gb2 = sb ++ pt2) := by rw [Hid, ← hgb2, HGB.out, ← hpt2]; apply ByteArray.ext; simp
       obtain ⟨sb2, hsb2⟩ : ∃ y, y = sb := ⟨_, rfl⟩
       subst hsb2
       have HSB2 : Hid (sb2.size ≤ 256 * (i + 1)) := by have := HSB.out; rw [Hid]; omega
       obtain ⟨F2, hF2⟩ : ∃ y, y = Fup F wr w7 := ⟨_, rfl⟩
       rw [← hF2] at HLN
       clear hF2
       go_wp2_with fail
       go_meet
       try rw [hgb2]
       clear hx2 hd hk CP b1 b2 b3 HSN0 hpt2 hgb2 hadd hgs HTK HSZT
      case' inr =>
       have b3 : (ik == 3) = false := by rw [beq_eq_false_iff_ne]; exact k3
       rcases Decidable.em (ik = 4) with k4 | k4
       case' inl =>
        have b4 : (ik == 4) = true := by rw [beq_iff_eq]; exact k4
        have CP := hid (aCut HLP.out.dial it HII.out.2.2)
        clear k1 k2 k3 k4
        go_wp2_with fail
        refine CP.out.mono ?_
        rintro en w7 ⟨rfl, hd, hk⟩
        obtain ⟨x2, hx2⟩ : ∃ y, x.cuts it = y := ⟨_, rfl⟩
        have HLN : Hid (LoopD B0 d F0 w0 w6 pf w7 x2 (Fup F wr w7)) := by rw [← hx2]; exact HLP.out.next hd hk (fit_cuts HLP.out.fit _) (cuts_p _ _)
        have HSN : Hid (SendI x2 sb pt) := by rw [← hx2]; exact sendI_cuts HSI.out _
        obtain ⟨F2, hF2⟩ : ∃ y, y = Fup F wr w7 := ⟨_, rfl⟩
        rw [← hF2] at HLN
        clear hF2
        obtain ⟨gb2, hgb2⟩ : ∃ y, y = gb := ⟨_, rfl⟩
        obtain ⟨pt2, hpt2⟩ : ∃ y, y = pt := ⟨_, rfl⟩
        obtain ⟨sb2, hsb2⟩ : ∃ y, y = sb := ⟨_, rfl⟩
        subst hgb2; subst hpt2; subst hsb2
        have HGN := hid HGB.out
        have HSB2 : Hid (sb2.size ≤ 256 * (i + 1)) := by have := HSB.out; rw [Hid]; omega
        clear hx2 hd hk CP b1 b2 b3 b4
        go_wp2_with fail
        go_meet
       case' inr =>
        have b4 : (ik == 4) = false := by rw [beq_eq_false_iff_ne]; exact k4
        rcases Decidable.em (ik = 5) with k5 | k5
        case' inl =>
         have b5 : (ik == 5) = true := by rw [beq_iff_eq]; exact k5
         have CP := hid (aStep HLP.out.dial HLP.out.fit it HII.out.2.2.2)
         have HKS := hid (sendI_step HSI.out HPD.out it)
         have HFS := hid (And.intro (fit_step HLP.out.dial.ok HLP.out.fit it HII.out.2.2.2) (step_p x it))
         obtain ⟨⟨x2, ⟨tk, lc, wh, ar, nn, ss⟩, dd⟩, hst⟩ : ∃ y, x.step it = y := ⟨_, rfl⟩
         rw [hst] at CP HKS HFS
         unfold StepV.val at CP
         simp only at CP HKS HFS
         clear k1 k2 k3 k4 k5 hst
         go_wp2_with fail
         refine CP.out.mono ?_
         rintro en wq ⟨rfl, hd, hk⟩
         have HL0 : Hid (LoopD B0 d F0 w0 w6 pf wq x2 (Fup F wr wq)) := HLP.out.next hd hk HFS.out.1 HFS.out.2
         clear hd hk CP
         go_upto_region 21 with fail
         generalize hw7 : wq.alloc (.cells #[.int .i64 tk, .int .i64 (lc : Int), .int .i64 (wh : Int), .int .i64 (ar : Int), .int .i64 (nn : Int), .int .i64 (ss : Int)] 51) = w7
         have HS7 : Hid (Blk w7 wq.heap.size 51 #[.int .i64 tk, .int .i64 (lc : Int), .int .i64 (wh : Int), .int .i64 (ar : Int), .int .i64 (nn : Int), .int .i64 (ss : Int)]) := by rw [← hw7]; exact Blk.new wq _ _
         have HL1 : Hid (LoopD B0 d F0 w0 w6 pf w7 x2 (Fup F wr wq)) := by rw [← hw7]; exact HL0.out.below ((Below.refl _ _).alloc (Nat.le_refl _) _)
         obtain ⟨gs, hgs⟩ : ∃ y, wq.heap.size = y := ⟨_, rfl⟩
         rw [hgs] at HS7 ⊢
         obtain ⟨F2, hF2⟩ : ∃ y, y = Fup F wr wq := ⟨_, rfl⟩
         have HLN : Hid (LoopD B0 d F0 w0 w6 pf w7 x2 F2) := by rw [hF2]; exact HL1.out
         clear hF2 HL1 HL0 hw7 hgs
         rcases Decidable.em (dd = true ∧ wh = 6) with h6 | h6
         case' inl =>
          have HK6 := HKS.out
          rw [if_pos h6] at HK6
          obtain ⟨hdd, hwh⟩ := h6
          have b6 : ((wh : Int) == 6) = true := by rw [beq_iff_eq]; omega
          subst hdd
          have hlc : lc < pf.ops.length := by rw [← HLP.out.prog]; exact HK6.1
          have HFQ := HFT2.out lc hlc
          have hpt : pt = (ops.getD lc dNone).text := by rw [← HFQ.2.1, ← HLP.out.prog]; exact HK6.2.1
          have htx : pt.size ≤ 256 := by rw [hpt]; exact HFQ.2.2
          have hlo : lc < ops.length := by rw [HM.out]; exact HFQ.1
          have HB7 : Hid (Below w.heap.size w w7) := HB6.out.trans (HLN.out.keep.below HB6.out.size (fun k hk => by have := HNF.out k hk; have := HBB.out; have := HS12.out; omega))
          have HX7 := hid (HLN.out.keep.blk HX6.out (fun h => by have := HNF.out _ h; have := HBB.out; have := HS12.out; omega))
          obtain ⟨bA, oA, vA, hAA, hblA, -, -, q1, -, -, -, -, -⟩ := (HOPS.out.below HB7.out).at lc hlo
          have hgt : (ops[lc]'hlo).text = pt := by rw [hpt, List.getD_eq_getElem?_getD, List.getElem?_eq_getElem hlo]; rfl
          rw [hgt] at q1
          have hadd := fun (W : World) => run_string_add (P := Tryz.prog) W sb pt (by have := HSB.out; have := HLI.out; omega) (by omega)
          have hlm : (lc : Int) < (m : Int) := by have := HFQ.1; omega
          have hlm2 : lc < m := HFQ.1
          have hl0 : ¬ (lc : Int) < 0 := by omega
          have hl1 : ¬ (m : Int) ≤ (lc : Int) := by omega
          have x9 : w7.cell? ⟨gx, 9, none⟩ = some (.slice (some ⟨bA, oA, none⟩) m c) := by rw [← hAA]; exact HX7.out.cell 9
          have xl := HX7.out.lt
          have s1 : w7.cell? ⟨gs, 1, none⟩ = some (.int .i64 (lc : Int)) := HS7.out.cell 1
          have s2 : w7.cell? ⟨gs, 2, none⟩ = some (.int .i64 (wh : Int)) := HS7.out.cell 2
          have sl := HS7.out.lt
          have HSN0 := hid (HK6.2.2 gb)
          have HPT := hid htx
          clear hpt htx hlo hgt HFQ HK6 hlc hAA hwh
          go_upto_region 25 with fail
          obtain ⟨gb2, hgb2⟩ : ∃ y, sb ++ pt = y := ⟨_, rfl⟩
          have HG2 : Hid (gb = gb2) := HGB.out.trans hgb2
          rw [hgb2]
          obtain rfl := HG2.out
          obtain ⟨pt2, hpt2⟩ : ∃ y : ByteArray, ⟨#[]⟩ = y := ⟨_, rfl⟩
          have HSN : Hid (SendI x2 gb pt2) := by rw [← hpt2]; exact HSN0.out
          have HGN : Hid (gb = gb ++ pt2) := by rw [Hid, ← hpt2, ba_append_nil]
          have HSB2 : Hid (gb.size ≤ 256 * (i + 1)) := by have h1 := HSB.out; have h2 := HPT.out; rw [Hid, HGB.out, ByteArray.size_append]; omega
          clear hgb2 HG2 hadd hpt2 q1 hlm hlm2 hl0 hl1 x9 xl s1 s2 sl hblA HSN0 HPT HX7 HB7
          go_wp2_with fail
          go_meet
         case' inr =>
          have HSN0 : Hid (SendI x2 sb pt) := by have h := HKS.out; rw [if_neg h6] at h; exact h
          have s2 : w7.cell? ⟨gs, 2, none⟩ = some (.int .i64 (wh : Int)) := HS7.out.cell 2
          have sl := HS7.out.lt
          have HSN := HSN0
          have HGN := HGB
          obtain ⟨pt2, hpt2⟩ : ∃ y, y = pt := ⟨_, rfl⟩
          subst hpt2
          have HSB2 : Hid (sb.size ≤ 256 * (i + 1)) := by have := HSB.out; rw [Hid]; omega
          cases dd
          case' false =>
           clear h6 HSN0
           go_wp2_with fail
           go_meet
          case' true =>
           have b6 : ((wh : Int) == 6) = false := by rw [beq_eq_false_iff_ne]; intro h; exact h6 ⟨rfl, by omega⟩
           clear h6 HSN0
           go_wp2_with fail
           go_meet
        case' inr =>
         have b5 : (ik == 5) = false := by rw [beq_eq_false_iff_ne]; exact k5
         clear k1 k2 k3 k4 k5
         obtain ⟨x2, hx2⟩ : ∃ y, y = x := ⟨_, rfl⟩
         obtain ⟨w7, hw7⟩ : ∃ y, y = wr := ⟨_, rfl⟩
         subst hx2; subst hw7
         have HLN : Hid (LoopD B0 d F0 w0 w6 pf w7 x2 F) := HLP.out
         obtain ⟨wr, hwr⟩ : ∃ y, y = w7 := ⟨_, rfl⟩
         have HLN0 := HLN
         clear HLN
         have HLN : Hid (LoopD B0 d F0 w0 w6 pf w7 x2 (Fup F wr w7)) := by
          have e : Fup F wr w7 = F := by rw [hwr]; funext k; apply propext; unfold Fup; constructor; rintro (h | h); exact h; omega; exact .inl
          rw [Hid, e]; exact HLN0.out
         clear HLN0
         have HSN := hid HSI.out
         obtain ⟨F2, hF2⟩ : ∃ y, y = Fup F wr w7 := ⟨_, rfl⟩
         rw [← hF2] at HLN
         clear hF2
         obtain ⟨gb2, hgb2⟩ : ∃ y, y = gb := ⟨_, rfl⟩
         obtain ⟨pt2, hpt2⟩ : ∃ y, y = pt := ⟨_, rfl⟩
         obtain ⟨sb2, hsb2⟩ : ∃ y, y = sb := ⟨_, rfl⟩
         subst hgb2; subst hpt2; subst hsb2
         have HGN := hid HGB.out
         have HSB2 : Hid (sb2.size ≤ 256 * (i + 1)) := by have := HSB.out; rw [Hid]; omega
         go_wp2_with fail
         go_meet
         clear b1 b2 b3 b4 b5
    all_goals
     exact ⟨x2, F2, _, _, pt2, rfl, rfl, HGN.out, HSB2.out, HSN.out, HLN.out⟩
   case rest =>
    obtain ⟨x2, F2, sb2, gb2, pt2, rfl, rfl, hgn, hsb2, hsn, hln⟩ := hcut
    have HGN := hid hgn; have HSB2 := hid hsb2; have HSN := hid hsn; have HLN := hid hln
    obtain ⟨w7, hw7⟩ : ∃ y, y = wc := ⟨_, rfl⟩
    subst hw7
    clear hgn hsb2 hsn hln HLP HSI HGB HSB HPD HII HBR
    have CL := hid (aLoc HLN.out.dial)
    have HB7 : Hid (Below w.heap.size w w7) := HB6.out.trans (HLN.out.keep.below HB6.out.size (fun k hk => by have := HNF.out k hk; have := HBB.out; have := HS12.out; omega))
    have HX7 := hid (HLN.out.keep.blk HX6.out (fun h => by have := HNF.out _ h; have := HBB.out; have := HS12.out; omega))
    have hx1 := sext_left HGN.out
    have hx2 := sext_right HGN.out
    have hle := sext_le HGN.out
    have hlt0 := Int.not_lt.2 hle
    clear c0 c1 c2 c3 hbl
    rcases Decidable.em (pt2.size = 0) with hp0 | hp0
    ·obtain rfl := ba_size0 hp0
     clear hp0
     go_wp2_with fail
     refine CL.out.mono ?_
     rintro en w8 ⟨rfl, rfl⟩
     go_wp2_with fail
     go_roundw
     case rel => exact ⟨i + 1, x2, F2, _, _, ⟨#[]⟩, by omega, by go_num, rfl, rfl, HGN.out, HSB2.out, HSN.out, HLN.out⟩
     case measure => simp [intOf]; omega
    ·obtain ⟨r1, r2, r3⟩ := HSN.out.rest hp0
     rw [HLN.out.prog] at r1
     have HFQ := HFT2.out x2.loc r1
     have htx : x2.op.text = (ops.getD x2.loc dNone).text := by rw [← HFQ.2.1, ← HLN.out.prog]; rfl
     have hlo : x2.loc < ops.length := by rw [HM.out]; exact HFQ.1
     obtain ⟨bA, oA, vA, hAA, hblA, -, -, q1, -, -, -, -, -⟩ := (HOPS.out.below HB7.out).at x2.loc hlo
     have hgt : (ops[x2.loc]'hlo).text = x2.op.text := by rw [htx, List.getD_eq_getElem?_getD, List.getElem?_eq_getElem hlo]; rfl
     rw [hgt] at q1
     have x9 : w7.cell? ⟨gx, 9, none⟩ = some (.slice (some ⟨bA, oA, none⟩) m c) := by rw [← hAA]; exact HX7.out.cell 9
     have xl := HX7.out.lt
     have HLC := hid HFQ.1
     obtain ⟨lc, hlc⟩ : ∃ y, x2.loc = y := ⟨_, rfl⟩
     obtain ⟨tx, htt⟩ : ∃ y, x2.op.text = y := ⟨_, rfl⟩
     rw [hlc] at CL HLC q1
     rw [htt] at q1 r2 r3
     have hlm : (lc : Int) < (m : Int) := by have := HLC.out; omega
     have hlm2 : lc < m := HLC.out
     have hl0 : ¬ (lc : Int) < 0 := by omega
     have hl1 : ¬ (m : Int) ≤ (lc : Int) := by omega
     have t1 : (pt2.size : Int) ≤ (tx.size : Int) := by omega
     have t2 := Int.not_lt.2 t1
     have e1 : ¬ pt2.toList = [] := by have := str_ne (b := ⟨#[]⟩) (fun h => hp0 ((size0 pt2).1 h)); rwa [ByteArray.toList_eq ⟨#[]⟩] at this
     have e2 : (pt2.toList == []) = false := by rw [beq_eq_false_iff_ne]; exact e1
     clear hp0 r1 HFQ htx hlo hgt hAA hlc htt HLC
     go_wp2_with fail
     refine CL.out.mono ?_
     rintro en w8 ⟨rfl, rfl⟩
     go_wp2_with fail
     go_roundw
     case rel => exact ⟨i + 1, x2, F2, _, _, pt2, by omega, by go_num, rfl, rfl, HGN.out, HSB2.out, HSN.out, HLN.out⟩
     case measure => simp [intOf]; omega
  ·go_wp2_with fail
   refine (CLV.out _).mono ?_
   rintro en w4 ⟨rfl, hb⟩
   have HBR : Hid (Below w.heap.size w wr) := HB6.out.trans (HLP.out.keep.below HB6.out.size (fun k hk => by have := HNF.out k hk; have := HBB.out; have := HS12.out; omega))
   have HB4 := hid (HBR.out.trans (hb.mono HBR.out.size))
   clear hb
   go_wp2_with fail
   go_ret
   exact ⟨rfl, HB4.out⟩
open Go.ChangeShapes Go.WideShapes Go.ChangeAt Go.WideElems Go.Deep
open Go.ChangeMaps (open_string shut_string)
set_option maxRecDepth 100000 in
theorem dialSends_lifted (os : Os) (started : os.Started) (H : Type) (enc : TypeId × Value → H) :
  ReturnsInHanded {} Tryz.checked os 3 .any (Rows.dialSendsSpec.pre6 enc Tryz.prog Tryz.f3 [] false) (Rows.dialSendsSpec.post enc Tryz.prog Tryz.f3 false true false false) := by
 refine law_lifted 3 Tryz.f3 Rows.dialSendsSpec os started H enc Tryz.func3 (by kernel_rfl) (by kernel_rfl) (by kernel_rfl) rfl (fun ds h => ?_)
  (ChangeSpec.witness6 (enc := enc) (C := Tryz.checked) false ⟨#[], #[.agg #[.int .i64 0, .int .i64 0, .int .i64 0, .int .i64 0, .int .i64 0, .int .i64 0, .string ⟨#[]⟩, .int .i64 0, .int .i64 0, .slice none 0 0, .int .i64 0, .slice none 0 0, .int .i64 0]], []⟩ 8 (by kernel_rfl) (by kernel_rfl) (by kernel_rfl) (by kernel_rfl)) ?_
 ·have hn : ds.length = 1 := h
  match ds, hn with
  | [d0], _ => rfl
 ·intro W args ds p base hval hA _ _
  rw [show Tryz.f3.params.toList = [29] from by rw [Tryz.params3]] at hval hA
  obtain ⟨v0, _, d0, _, p0, _, rfl, rfl, rfl, h0, hA⟩ := all_cons hA
  obtain rfl := all_nil hA
  obtain ⟨x0, A0, c0, B0, k0, rfl, hx0⟩ := open_play22Arg (hval 0 _ v0 rfl rfl) h0
  exact dialSends_any A0 c0 B0 k0 x0 W hx0
theorem dialSends_holds : Rows.DialSendsSaid :=
 OpenClaim.holds_of_wide 3 Tryz.f3 rfl rfl rfl rfl rfl rfl rfl ⟨rfl, rfl, rfl, rfl, rfl⟩ rfl rfl rfl rfl rfl (by kernel_rfl) Tryz.func3 (by kernel_rfl)
  (of_decide_eq_true (by kernel_rfl)) (by unfold Func.isWrapper; first | (rw [if_pos (by decide +kernel)]; kernel_rfl) | (rw [if_neg (by decide +kernel)]; exact ⟨rfl, rfl⟩))
  (fun os started H enc _ => dialSends_lifted os started H enc)
#print axioms dialSends_holds
end Go.Proofs.YtpkkfdmhbbipoaaGreat
