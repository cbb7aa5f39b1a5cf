/- Law 22's begin: both dialogues of a play. What a dialogue sends, in plain Lean: what was taken is the texts sent, then a head of the op's text. -/
import Derived.Test.YtpkkfdmhbbipoaaGreatRg
import Derived.Test.YtpkkfdmhbbipoaaGreatEb
import Derived.Test.YtpkkfdmhbbipoaaGreatDk
namespace Go.Proofs.YtpkkfdmhbbipoaaGreat
open Go.RowKit PopT
theorem zeroRow_D : zeroRow [.int .i64 0, .int .i64 0, .int .i64 0, .int .i64 0, .int .i64 0, .int .i64 0, .string ⟨#[]⟩, .int .i64 0, .int .i64 0, .slice none 0 0, .int .i64 0, .int .i64 0, .int .i64 0, .int .i64 0, .int .i64 0, .int .i64 0, .string ⟨#[]⟩, .int .i64 0, .string ⟨#[]⟩, .int .i64 0, .slice none 0 0, .string ⟨#[]⟩, .string ⟨#[]⟩, .string ⟨#[]⟩, .int .i64 0, .int .i64 0, .bool false, .int .i64 0] := by
 intro u hu
 simp only [List.mem_cons, List.not_mem_nil, or_false] at hu
 constructor
 ·rintro v rfl; simp at hu; omega
 ·rintro s rfl; simp at hu; exact hu
theorem pat_full {p : ByteArray} (h : (checkM p).2.2 = 0) : p ≠ ⟨#[]⟩ := by
 rintro rfl
 revert h
 decide
theorem prog_full {p : ProgV} (hg : (wrongM p).2 = 0) : ∀ o ∈ p.ops, o.kind ≠ 0 ∧ ∀ m ∈ o.arms, m.pat ≠ ⟨#[]⟩ := by
 intro o ho
 have h := (wrongM_zero _ hg).2.2 o ho
 refine ⟨fun hk => ?_, fun m hm => ?_⟩
 ·unfold opE at h; rw [if_pos (by omega)] at h; omega
 ·by_cases hk : o.kind = 2
  ·exact pat_full ((armsE_zero _ _ (expectE_zero _ _ (opE_expect _ _ h hk)).2 m hm).2.1)
  ·unfold opE at h
   split at h
   ·omega
   ·split at h
    ·omega
    ·rename_i _ hb
     cases hb2 : bareB o with
     | false => exact absurd hb2 hb
     | true =>
      unfold bareB at hb2
      simp only [Bool.and_eq_true, Bool.or_eq_true, decide_eq_true_eq] at hb2
      rcases hb2.2 with h2 | h2
      ·exact absurd h2 hk
      ·have := List.length_eq_zero_iff.1 h2.1.1
       rw [this] at hm; cases hm
theorem DialAt.okD {B d : Nat} {F : Nat → Prop} {w0 w : World} {x : DialV} (h : DialAt B F w0 w d x) : DialOk x := by
 obtain ⟨gi, gb, gh, gp, F2, A, c, h⟩ := h
 exact h.ok
theorem DialAt.unzero {B d g : Nat} {t : TypeId} {zs cs : List Value} {F : Nat → Prop} {w0 w : World} {x : DialV} (h : DialAt B F w0 w d x) (hgB : g < B) (hz : Blk w g t zs.toArray) (h0 : zeroRow zs) :
  ∃ w2, DialAt B F w2 (w.setRow g cs.toArray) d x := by
 obtain ⟨gi, gb, gh, gp, F2, A, c, h1, h2, ⟨bs, ps, P, hbs, h3, h3'⟩, h4, h5, h6, h7, h8, h9, h10, h11, h12⟩ := h
 have hk : Keep (fun k => k = g) w (w.setRow g cs.toArray) := Keep.setRow (fun k => k = g) _ g _ rfl
 have hn : ∀ k, F k → k ≠ g := fun k hf e => by have := (h10 k hf).1; omega
 by_cases hg : g < w0.heap.size
 case neg =>
  refine ⟨w0, gi, gb, gh, gp, F2, A, c, hk.blk h1 (hn _ h8.1), h2.keep hk (hn _ h8.2.1) (hn _ h8.2.2.1), ⟨bs, ps, P, Nat.le_trans hbs hk.size, h3.keep hk (fun k hf => hn k (h8.2.2.2.2 k hf)), h3'⟩, h4.keep hk (hn _ h8.2.2.2.1), h5, ?_, ⟨h7.1, Nat.le_trans h7.2 hk.size⟩, h8, h9, fun k hf => ⟨(h10 k hf).1, Nat.lt_of_lt_of_le (h10 k hf).2 hk.size⟩, h11, h12⟩
  exact h6.trans (hk.below h6.size (fun k (e : k = g) => by omega))
 have hz0 : Blk w0 g t zs.toArray := (h6.block g hg).symm.trans hz
 have hk0 : Keep (fun k => k = g) w0 (w0.setRow g cs.toArray) := Keep.setRow (fun k => k = g) _ g _ rfl
 refine ⟨w0.setRow g cs.toArray, gi, gb, gh, gp, F2, A, c, hk.blk h1 (hn _ h8.1), h2.keep hk (hn _ h8.2.1) (hn _ h8.2.2.1), ⟨bs, ps, P, Nat.le_trans hbs hk.size, h3.keep hk (fun k hf => hn k (h8.2.2.2.2 k hf)), h3'⟩, h4.keep hk (hn _ h8.2.2.2.1), ops_unzero h5 hz0 h0 (prog_full h12.pgood) hk0, ?_, ⟨?_, Nat.le_trans h7.2 hk.size⟩, h8, h9, fun k hf => ⟨(h10 k hf).1, Nat.lt_of_lt_of_le (h10 k hf).2 hk.size⟩, h11, h12⟩
 ·refine ⟨h6.os, h6.tape, h6.output, by simpa using h6.size, fun k hk2 => ?_⟩
  have hk3 : k < w0.heap.size := by simpa using hk2
  by_cases e : k = g
  ·subst e
   rw [setRow_heap w k zs.toArray cs.toArray t (0, 0) hz, setRow_heap w0 k zs.toArray cs.toArray t (0, 0) hz0]
  ·rw [setRow_other _ _ _ _ e, setRow_other _ _ _ _ e]; exact h6.block k hk3
 ·simpa using h7.1
theorem few_pats (p : ProgV) (most : Nat) : ∀ o ∈ (fewP p most).ops, ∀ a ∈ o.arms, a.pat.size ≤ 1000000 := by
 intro o ho a ha
 obtain ⟨o2, _, rfl⟩ := List.mem_map.1 ho
 obtain ⟨a2, _, rfl⟩ := List.mem_map.1 ha
 have := cutM_size 70 a2.pat
 show (cutM 70 a2.pat).size ≤ _
 omega
def erOf (s : SetV) (p : ProgV) : Nat := if goodS s = false then 1 else if (wrongM p).2 ≠ 0 then 2 else 0
def BeginQ (s : SetV) (p : ProgV) (now : Int) (w : World) (e : Ending) (w' : World) : Prop := Below w.heap.size w w' ∧ ∃ (q : Option Addr) (cs : List Value) (ok : Bool), e = .returned (.tuple #[.pointer q, .agg cs.toArray, .bool ok]) ∧ cs.length = 28 ∧ cs.toArray.all (·.oneCell') = true ∧ ok = decide (erOf s p = 0) ∧
 (ok = true → ∃ w0 d B F, q = some ⟨d, 0, none⟩ ∧ w.heap.size ≤ B ∧ DialAt B F w0 w' d ((newV s p now).come 0) ∧ RefD w.heap.size w' ((newV s p now).come 0) (.agg cs.toArray))
set_option maxRecDepth 20000 in
set_option maxHeartbeats 16000000 in
theorem begin_any (x : PlayV) (A : Option Addr) (c : Nat) (B : Option Addr) (k : Nat) (w : World) (hx : PlayOk w x A B k) :
  Calls Tryz.prog 14 #[x.val A c B k] w fun e w' => BeginQ x.s (fewP x.p 9) x.now w e w' := by
 obtain ⟨hop, hpok, hnow, -, -, -, -, -⟩ := hx
 have CFP : Hid (∀ W, Below w.heap.size w W → Calls Tryz.prog 26 #[x.p.val (.slice A x.p.ops.length c), .int .i64 9] W fun e w' => ∃ A' c', e = .returned ((fewP x.p 9).val (.slice A' (fewP x.p 9).ops.length c')) ∧ OpsOwn W.heap.size w' (.slice A' (fewP x.p 9).ops.length c') (fewP x.p 9).ops ∧ Below W.heap.size W w') := fun W hb =>
  fewP_any x.p A c 9 W (hop.below hb) hpok (by omega)
 have HPO := hid (fewP_ok x.p 9 hpok)
 have HER : Hid (∀ s p, erOf s p = if goodS s = false then 1 else if (wrongM p).2 ≠ 0 then 2 else 0) := fun _ _ => rfl
 have CDN : Hid (∀ W A' c' b0, OpsOwn b0 W (.slice A' (fewP x.p 9).ops.length c') (fewP x.p 9).ops → Calls Tryz.prog 55 #[x.s.val, (fewP x.p 9).val (.slice A' (fewP x.p 9).ops.length c'), .int .i64 x.now] W fun e w' => Below W.heap.size W w' ∧ ∃ q, e = .returned (.tuple #[.pointer q, .int .i64 ((erOf x.s (fewP x.p 9) : Nat) : Int)]) ∧
   (erOf x.s (fewP x.p 9) = 0 → ∃ w0 d B F, q = some ⟨d, 0, none⟩ ∧ W.heap.size ≤ B ∧ DialAt B F w0 w' d ((newV x.s (fewP x.p 9) x.now).come 0))) := fun W A' c' b0 ho =>
  (dNew_any x.s (fewP x.p 9) A' c' b0 x.now W ho HPO.out hnow).mono (fun e w' h => by
   unfold newPost at h
   refine ⟨h.1, ?_⟩
   have h2 := h.2
   unfold erOf
   split at h2
   ·rename_i h3; rw [if_pos h3]; exact ⟨_, h2, fun h => by cases h⟩
   ·rename_i h3
    rw [if_neg h3]
    split at h2
    ·rename_i h4; rw [if_pos h4]; exact ⟨_, h2, fun h => by cases h⟩
    ·rename_i h4
     rw [if_neg h4]
     obtain ⟨w0, d, B, F, rfl, hB, hd, hw⟩ := h2
     exact ⟨_, rfl, fun _ => ⟨w0, d, B, F, rfl, hB, hd, hw⟩⟩)
 have CRN : Hid (∀ W A' c' b0, OpsOwn b0 W (.slice A' (fewP x.p 9).ops.length c') (fewP x.p 9).ops → Calls Tryz.prog 56 #[x.s.val, (fewP x.p 9).val (.slice A' (fewP x.p 9).ops.length c'), .int .i64 x.now] W fun e w' => Below W.heap.size W w' ∧ ∃ cs : List Value, e = .returned (.tuple #[.agg cs.toArray, .int .i64 ((erOf x.s (fewP x.p 9) : Nat) : Int)]) ∧
   cs.length = 28 ∧ cs.toArray.all (·.oneCell') = true ∧ (erOf x.s (fewP x.p 9) = 0 → RefD W.heap.size w' ((newV x.s (fewP x.p 9) x.now).come 0) (.agg cs.toArray))) := fun W A' c' b0 ho =>
  (rNewD x.s (fewP x.p 9) A' c' x.now W (ho.inn rfl) HPO.out hnow (few_pats x.p 9)).mono (fun e w' h => by
   obtain ⟨hb, v, n, rfl, hn, ⟨cs, rfl, hl, ha⟩, hr⟩ := h
   have hn2 : n = erOf x.s (fewP x.p 9) := hn
   subst hn2
   exact ⟨hb, cs, rfl, hl, ha, hr⟩)
 have HGOOD : Hid (erOf x.s (fewP x.p 9) = 0 → DialOk ((newV x.s (fewP x.p 9) x.now).come 0) → ∀ o ∈ ((newV x.s (fewP x.p 9) x.now).come 0).p.ops, o.kind ≠ 0 ∧ ∀ m ∈ o.arms, m.pat ≠ ⟨#[]⟩) := fun _ h => prog_full h.pgood
 obtain ⟨Q, hQ⟩ : ∃ Q : Ending → World → Prop, (fun e w' => BeginQ x.s (fewP x.p 9) x.now w e w') = Q := ⟨_, rfl⟩
 have HQ := hid hQ
 rw [hQ]
 obtain ⟨er, her⟩ : ∃ y, erOf x.s (fewP x.p 9) = y := ⟨_, rfl⟩
 have HERR := hid her
 obtain ⟨X0, hX0⟩ : ∃ y, (newV x.s (fewP x.p 9) x.now).come 0 = y := ⟨_, rfl⟩
 have HX0 := hid hX0
 rw [her] at CDN CRN HGOOD
 rw [hX0] at CDN CRN HGOOD
 obtain ⟨s, p, now, l, ask⟩ := x
 unfold PlayV.val
 simp only at CFP CDN CRN HQ HERR HX0 ⊢
 obtain ⟨n, hnn⟩ : ∃ y, l.length = y := ⟨_, rfl⟩
 obtain ⟨m, hmm⟩ : ∃ y, p.ops.length = y := ⟨_, rfl⟩
 obtain ⟨pf, hpf⟩ : ∃ y, fewP p 9 = y := ⟨_, rfl⟩
 rw [hnn, hmm]
 rw [hmm] at CFP
 rw [hpf] at CFP CDN CRN HQ HERR HX0
 clear hop hpok hnow hnn hmm hpf hQ her hX0 HPO HER
 obtain ⟨lv, rg, wn, ou, qu, vi⟩ := s
 obtain ⟨nm, dl, jp, ops⟩ := p
 obtain ⟨nm2, dl2, jp2, ops2⟩ := pf
 unfold SetV.val at CDN CRN
 unfold ProgV.val at CFP CDN CRN
 simp only at CFP CDN CRN ⊢
 obtain ⟨m2, hm2⟩ : ∃ y, ops2.length = y := ⟨_, rfl⟩
 rw [hm2] at CFP CDN CRN
 clear hm2
 go_enter Tryz.func14, Tryz.ntmps14
 go_upto_region 1 with fail
 generalize hwz : (w.alloc (.cells #[.int .i64 lv, .int .i64 rg, .int .i64 wn, .int .i64 ou, .int .i64 qu, .int .i64 vi, .string nm, .int .i64 dl, .int .i64 jp, .slice A m c, .int .i64 now, .slice B n k, .int .i64 ask] 29)).alloc (.cells #[.int .i64 0, .int .i64 0, .int .i64 0, .int .i64 0, .int .i64 0, .int .i64 0, .string ⟨#[]⟩, .int .i64 0, .int .i64 0, .slice none 0 0, .int .i64 0, .int .i64 0, .int .i64 0, .int .i64 0, .int .i64 0, .int .i64 0, .string ⟨#[]⟩, .int .i64 0, .string ⟨#[]⟩, .int .i64 0, .slice none 0 0, .string ⟨#[]⟩, .string ⟨#[]⟩, .string ⟨#[]⟩, .int .i64 0, .int .i64 0, .bool false, .int .i64 0] 41) = wz
 obtain ⟨gx, gr, hgx, hgr, HXX, HR, HB, HNE⟩ := alloc2 hwz
 rw [hgr, hgx]
 clear hgr hgx hwz
 have X00 : ∀ q : BW wz.heap.size wz, q.1.cell? ⟨gx, 0, none⟩ = some (.int .i64 lv) := fun q => q.cellAt HXX.out.lt (HXX.out.cell 0)
 have X1 : ∀ q : BW wz.heap.size wz, q.1.cell? ⟨gx, 1, none⟩ = some (.int .i64 rg) := fun q => q.cellAt HXX.out.lt (HXX.out.cell 1)
 have X2 : ∀ q : BW wz.heap.size wz, q.1.cell? ⟨gx, 2, none⟩ = some (.int .i64 wn) := fun q => q.cellAt HXX.out.lt (HXX.out.cell 2)
 have X3 : ∀ q : BW wz.heap.size wz, q.1.cell? ⟨gx, 3, none⟩ = some (.int .i64 ou) := fun q => q.cellAt HXX.out.lt (HXX.out.cell 3)
 have X4 : ∀ q : BW wz.heap.size wz, q.1.cell? ⟨gx, 4, none⟩ = some (.int .i64 qu) := fun q => q.cellAt HXX.out.lt (HXX.out.cell 4)
 have X5 : ∀ q : BW wz.heap.size wz, q.1.cell? ⟨gx, 5, none⟩ = some (.int .i64 vi) := fun q => q.cellAt HXX.out.lt (HXX.out.cell 5)
 have X6 : ∀ q : BW wz.heap.size wz, q.1.cell? ⟨gx, 6, none⟩ = some (.string nm) := fun q => q.cellAt HXX.out.lt (HXX.out.cell 6)
 have X7 : ∀ q : BW wz.heap.size wz, q.1.cell? ⟨gx, 7, none⟩ = some (.int .i64 dl) := fun q => q.cellAt HXX.out.lt (HXX.out.cell 7)
 have X8 : ∀ q : BW wz.heap.size wz, q.1.cell? ⟨gx, 8, none⟩ = some (.int .i64 jp) := fun q => q.cellAt HXX.out.lt (HXX.out.cell 8)
 have X9 : ∀ q : BW wz.heap.size wz, q.1.cell? ⟨gx, 9, none⟩ = some (.slice A m c) := fun q => q.cellAt HXX.out.lt (HXX.out.cell 9)
 have X10 : ∀ q : BW wz.heap.size wz, q.1.cell? ⟨gx, 10, none⟩ = some (.int .i64 now) := fun q => q.cellAt HXX.out.lt (HXX.out.cell 10)
 refine wp_region_ordT wz.heap.size [] (.val 0 (.val 1 (.val 2 (.val 3 (.val 5 (.val 6 (.op 4 (.op 7 (.val 8 (.val 9 (.val 10 (.val 11 (.val 12 (.nil)))))))))))))) (by kernel_rfl) (by kernel_rfl) ?_
 obtain ⟨wc, hwc⟩ : ∃ W, wz.drewN 1 = W := ⟨_, rfl⟩
 have HBW : Hid (Below wz.heap.size wz wc) := by rw [← hwc]; exact drewN_below wz 1
 rw [hwc]
 clear hwc
 iterate 6 ((first | refine wpOrdT_val rfl rfl ?_ | refine wpOrdT_load rfl rfl (inBW HBW.out) ?_); go_big_quiet_step (fail); refine wpQuiet_nil ?_)
 refine wpOrdT_op rfl ?_
 have CQ := hid (CFP.out wc (HB.out.trans (HBW.out.mono HB.out.size)))
 go_wp2_with fail
 refine CQ.out.mono ?_
 rintro en wn ⟨A2, c2, rfl, ho2, hb⟩
 have HBWn : Hid (Below wz.heap.size wz wn) := HBW.out.trans (hb.mono HBW.out.size)
 have HO2 := hid ho2
 clear HBW hb CQ ho2
 have HBW := HBWn
 clear HBWn
 obtain ⟨wc, hwc⟩ : ∃ y, y = wn := ⟨_, rfl⟩
 subst hwc
 go_wp2_with fail
 refine KT.keep (inBW HBW.out) ?_
 refine wpOrdT_op rfl ?_
 have CQ := hid (CDN.out wc A2 c2 _ HO2.out)
 go_wp2_with fail
 refine CQ.out.mono ?_
 rintro en wn ⟨hb, q, rfl, hd⟩
 have HDD : Hid (er = 0 → ∃ w0 d B F, q = some ⟨d, 0, none⟩ ∧ wz.heap.size ≤ B ∧ DialAt B F w0 wn d X0) := fun h => by
  obtain ⟨w0, d, B, F, h1, h2, h3⟩ := hd h
  exact ⟨w0, d, B, F, h1, Nat.le_trans HBW.out.size h2, h3⟩
 have HBWn : Hid (Below wz.heap.size wz wn) := HBW.out.trans (hb.mono HBW.out.size)
 clear HBW hb CQ hd HO2
 have HBW := HBWn
 clear HBWn
 obtain ⟨wc, hwc⟩ : ∃ y, y = wn := ⟨_, rfl⟩
 subst hwc
 go_wp2_with fail
 refine KT.keep (inBW HBW.out) ?_
 iterate 5 (refine wpOrdT_val rfl rfl ?_; go_big_quiet_step (fail); refine wpQuiet_nil ?_)
 refine wpOrdT_nil ?_
 go_upto_region 2 with fail
 obtain ⟨w2, hw2⟩ : ∃ y, y = wc := ⟨_, rfl⟩
 subst hw2
 have HX2 := hid (HXX.out.below HBW.out HXX.out.lt)
 have HR2 := hid (HR.out.below HBW.out HR.out.lt)
 have HB2 : Hid (Below w.heap.size w w2) := HB.out.trans (HBW.out.mono HB.out.size)
 have HS2 : Hid (gr < wz.heap.size ∧ wz.heap.size ≤ w2.heap.size ∧ w.heap.size ≤ wz.heap.size) := ⟨HR.out.lt, HBW.out.size, HB.out.size⟩
 clear HXX HR HB HBW X1 X2 X3 X4 X5 X6 X7 X8 X9 X10
 have X00 : ∀ q : BW w2.heap.size w2, q.1.cell? ⟨gx, 0, none⟩ = some (.int .i64 lv) := fun q => q.cellAt HX2.out.lt (HX2.out.cell 0)
 have X1 : ∀ q : BW w2.heap.size w2, q.1.cell? ⟨gx, 1, none⟩ = some (.int .i64 rg) := fun q => q.cellAt HX2.out.lt (HX2.out.cell 1)
 have X2 : ∀ q : BW w2.heap.size w2, q.1.cell? ⟨gx, 2, none⟩ = some (.int .i64 wn) := fun q => q.cellAt HX2.out.lt (HX2.out.cell 2)
 have X3 : ∀ q : BW w2.heap.size w2, q.1.cell? ⟨gx, 3, none⟩ = some (.int .i64 ou) := fun q => q.cellAt HX2.out.lt (HX2.out.cell 3)
 have X4 : ∀ q : BW w2.heap.size w2, q.1.cell? ⟨gx, 4, none⟩ = some (.int .i64 qu) := fun q => q.cellAt HX2.out.lt (HX2.out.cell 4)
 have X5 : ∀ q : BW w2.heap.size w2, q.1.cell? ⟨gx, 5, none⟩ = some (.int .i64 vi) := fun q => q.cellAt HX2.out.lt (HX2.out.cell 5)
 have X6 : ∀ q : BW w2.heap.size w2, q.1.cell? ⟨gx, 6, none⟩ = some (.string nm) := fun q => q.cellAt HX2.out.lt (HX2.out.cell 6)
 have X7 : ∀ q : BW w2.heap.size w2, q.1.cell? ⟨gx, 7, none⟩ = some (.int .i64 dl) := fun q => q.cellAt HX2.out.lt (HX2.out.cell 7)
 have X8 : ∀ q : BW w2.heap.size w2, q.1.cell? ⟨gx, 8, none⟩ = some (.int .i64 jp) := fun q => q.cellAt HX2.out.lt (HX2.out.cell 8)
 have X9 : ∀ q : BW w2.heap.size w2, q.1.cell? ⟨gx, 9, none⟩ = some (.slice A m c) := fun q => q.cellAt HX2.out.lt (HX2.out.cell 9)
 have X10 : ∀ q : BW w2.heap.size w2, q.1.cell? ⟨gx, 10, none⟩ = some (.int .i64 now) := fun q => q.cellAt HX2.out.lt (HX2.out.cell 10)
 refine wp_region_ordT w2.heap.size [12] (.val 0 (.val 1 (.val 2 (.val 3 (.val 5 (.val 6 (.two 4 (.two 7 (.val 8 (.val 9 (.val 10 (.op 11 (.op 12 (.val 13 (.nil))))))) 11 (.op 7 (.val 8 (.val 9 (.val 10 (.op 12 (.val 13 (.nil)))))))) 11 (.op 4 (.op 7 (.val 8 (.val 9 (.val 10 (.op 12 (.val 13 (.nil))))))))))))))) (by kernel_rfl) (by kernel_rfl) ?_
 obtain ⟨wc, hwc⟩ : ∃ W, w2.drewN 1 = W := ⟨_, rfl⟩
 have HBW : Hid (Below w2.heap.size w2 wc) := by rw [← hwc]; exact drewN_below w2 1
 rw [hwc]
 clear hwc
 iterate 6 ((first | refine wpOrdT_val rfl rfl ?_ | refine wpOrdT_load rfl rfl (inBW HBW.out) ?_); go_big_quiet_step (fail); refine wpQuiet_nil ?_)
 refine wpOrdT_two rfl rfl ?_ ?_
 focus
  have CQ := hid (CFP.out wc (HB2.out.trans (HBW.out.mono HB2.out.size)))
  go_wp2_with fail
  refine CQ.out.mono ?_
  rintro en wn ⟨A2, c2, rfl, ho2, hb⟩
  have HBWn : Hid (Below w2.heap.size w2 wn) := HBW.out.trans (hb.mono HBW.out.size)
  have HO2 := hid ho2
  try (have HGQ2 := hid (HGQ.out.below hb HGQ.out.lt); clear HGQ; have HGQ := HGQ2; clear HGQ2)
  clear HBW hb CQ ho2
  have HBW := HBWn
  clear HBWn
  obtain ⟨wc, hwc⟩ : ∃ y, y = wn := ⟨_, rfl⟩
  subst hwc
  go_wp2_with fail
  refine KT.keep (inBW HBW.out) ?_
  refine wpOrdT_two rfl rfl ?_ ?_
  focus
   have CQ := hid (CRN.out wc A2 c2 _ HO2.out)
   go_wp2_with fail
   refine CQ.out.mono ?_
   rintro en wn ⟨hb, cs, rfl, hl, ha, hr⟩
   have HL := hid hl
   have HA := hid ha
   have HRD := hid hr
   try (have HGL : Hid (gq < wc.heap.size) := HGQ.out.lt)
   have HSW : Hid (w2.heap.size ≤ wc.heap.size) := HBW.out.size
   try (have HGQ2 := hid (HGQ.out.below hb HGQ.out.lt); clear HGQ; have HGQ := HGQ2; clear HGQ2)
   have HBWn : Hid (Below w2.heap.size w2 wn) := HBW.out.trans (hb.mono HBW.out.size)
   first | (have HRK : Hid (er = 0 → (∀ o ∈ X0.p.ops, o.kind ≠ 0 ∧ ∀ m ∈ o.arms, m.pat ≠ ⟨#[]⟩) → ∀ W', Keep (fun k => k = gq) wn W' → RefD w2.heap.size W' X0 (.agg cs.toArray)) := fun h0 hg W' hk => ((HRD.out h0).unzero HGQ.out zeroRow_D hg hk HGL.out).mono HSW.out) | skip
   clear HBW hb CQ hr hl ha HO2
   have HBW := HBWn
   clear HBWn
   obtain ⟨wc, hwc⟩ : ∃ y, y = wn := ⟨_, rfl⟩
   subst hwc
   go_wp2_with fail
   refine KT.keep (inBW HBW.out) ?_
   iterate 3 (refine wpOrdT_val rfl rfl ?_; go_big_quiet_step (fail); refine wpQuiet_nil ?_)
   refine wpOrdT_op rfl ?_
   go_wp2_with fail
   obtain ⟨wd, hwd⟩ : ∃ W, wc.alloc (.cells #[.int .i64 0, .int .i64 0, .int .i64 0, .int .i64 0, .int .i64 0, .int .i64 0, .string ⟨#[]⟩, .int .i64 0, .int .i64 0, .slice none 0 0, .int .i64 0, .int .i64 0, .int .i64 0, .int .i64 0, .int .i64 0, .int .i64 0, .string ⟨#[]⟩, .int .i64 0, .string ⟨#[]⟩, .int .i64 0, .slice none 0 0, .string ⟨#[]⟩, .string ⟨#[]⟩, .string ⟨#[]⟩, .int .i64 0, .int .i64 0, .bool false, .int .i64 0] 41) = W := ⟨_, rfl⟩
   obtain ⟨gq, hgq⟩ : ∃ y, wc.heap.size = y := ⟨_, rfl⟩
   have HGQ : Hid (Blk wd gq 41 #[.int .i64 0, .int .i64 0, .int .i64 0, .int .i64 0, .int .i64 0, .int .i64 0, .string ⟨#[]⟩, .int .i64 0, .int .i64 0, .slice none 0 0, .int .i64 0, .int .i64 0, .int .i64 0, .int .i64 0, .int .i64 0, .int .i64 0, .string ⟨#[]⟩, .int .i64 0, .string ⟨#[]⟩, .int .i64 0, .slice none 0 0, .string ⟨#[]⟩, .string ⟨#[]⟩, .string ⟨#[]⟩, .int .i64 0, .int .i64 0, .bool false, .int .i64 0]) := by rw [← hwd, ← hgq]; exact Blk.new wc _ _
   have hbd : Below wc.heap.size wc wd := by rw [← hwd]; exact (Below.refl _ _).alloc (Nat.le_refl _) _
   have HBWn : Hid (Below w2.heap.size w2 wd) := HBW.out.trans (hbd.mono HBW.out.size)
   have HGE : Hid (w2.heap.size ≤ gq) := by rw [← hgq]; exact HBW.out.size
   first | (have HRK : Hid (er = 0 → (∀ o ∈ X0.p.ops, o.kind ≠ 0 ∧ ∀ m ∈ o.arms, m.pat ≠ ⟨#[]⟩) → ∀ W', Keep (fun k => k = gq) wd W' → RefD w2.heap.size W' X0 (.agg cs.toArray)) := fun h0 _ W' hk => ((HRD.out h0).mono HSW.out).below (hbd.trans (hk.below hbd.size (fun k (e : k = gq) => by rw [e, ← hgq]; exact Nat.le_refl _)))) | skip
   rw [hwd, hgq]
   try (have HO3 := hid (HO2.out.below hbd (Nat.le_refl _)); clear HO2; have HO2 := HO3; clear HO3)
   clear HBW hwd hgq hbd
   have HBW := HBWn
   clear HBWn
   obtain ⟨wc, hwc⟩ : ∃ y, y = wd := ⟨_, rfl⟩
   subst hwc
   refine KT.keep (inBW HBW.out) ?_
  rotate_left 1
  focus
   go_wp2_with fail
   obtain ⟨wd, hwd⟩ : ∃ W, wc.alloc (.cells #[.int .i64 0, .int .i64 0, .int .i64 0, .int .i64 0, .int .i64 0, .int .i64 0, .string ⟨#[]⟩, .int .i64 0, .int .i64 0, .slice none 0 0, .int .i64 0, .int .i64 0, .int .i64 0, .int .i64 0, .int .i64 0, .int .i64 0, .string ⟨#[]⟩, .int .i64 0, .string ⟨#[]⟩, .int .i64 0, .slice none 0 0, .string ⟨#[]⟩, .string ⟨#[]⟩, .string ⟨#[]⟩, .int .i64 0, .int .i64 0, .bool false, .int .i64 0] 41) = W := ⟨_, rfl⟩
   obtain ⟨gq, hgq⟩ : ∃ y, wc.heap.size = y := ⟨_, rfl⟩
   have HGQ : Hid (Blk wd gq 41 #[.int .i64 0, .int .i64 0, .int .i64 0, .int .i64 0, .int .i64 0, .int .i64 0, .string ⟨#[]⟩, .int .i64 0, .int .i64 0, .slice none 0 0, .int .i64 0, .int .i64 0, .int .i64 0, .int .i64 0, .int .i64 0, .int .i64 0, .string ⟨#[]⟩, .int .i64 0, .string ⟨#[]⟩, .int .i64 0, .slice none 0 0, .string ⟨#[]⟩, .string ⟨#[]⟩, .string ⟨#[]⟩, .int .i64 0, .int .i64 0, .bool false, .int .i64 0]) := by rw [← hwd, ← hgq]; exact Blk.new wc _ _
   have hbd : Below wc.heap.size wc wd := by rw [← hwd]; exact (Below.refl _ _).alloc (Nat.le_refl _) _
   have HBWn : Hid (Below w2.heap.size w2 wd) := HBW.out.trans (hbd.mono HBW.out.size)
   have HGE : Hid (w2.heap.size ≤ gq) := by rw [← hgq]; exact HBW.out.size
   first | (have HRK : Hid (er = 0 → (∀ o ∈ X0.p.ops, o.kind ≠ 0 ∧ ∀ m ∈ o.arms, m.pat ≠ ⟨#[]⟩) → ∀ W', Keep (fun k => k = gq) wd W' → RefD w2.heap.size W' X0 (.agg cs.toArray)) := fun h0 _ W' hk => ((HRD.out h0).mono HSW.out).below (hbd.trans (hk.below hbd.size (fun k (e : k = gq) => by rw [e, ← hgq]; exact Nat.le_refl _)))) | skip
   rw [hwd, hgq]
   try (have HO3 := hid (HO2.out.below hbd (Nat.le_refl _)); clear HO2; have HO2 := HO3; clear HO3)
   clear HBW hwd hgq hbd
   have HBW := HBWn
   clear HBWn
   obtain ⟨wc, hwc⟩ : ∃ y, y = wd := ⟨_, rfl⟩
   subst hwc
   refine KT.keep (inBW HBW.out) ?_
   refine wpOrdT_op rfl ?_
   have CQ := hid (CRN.out wc A2 c2 _ HO2.out)
   go_wp2_with fail
   refine CQ.out.mono ?_
   rintro en wn ⟨hb, cs, rfl, hl, ha, hr⟩
   have HL := hid hl
   have HA := hid ha
   have HRD := hid hr
   try (have HGL : Hid (gq < wc.heap.size) := HGQ.out.lt)
   have HSW : Hid (w2.heap.size ≤ wc.heap.size) := HBW.out.size
   try (have HGQ2 := hid (HGQ.out.below hb HGQ.out.lt); clear HGQ; have HGQ := HGQ2; clear HGQ2)
   have HBWn : Hid (Below w2.heap.size w2 wn) := HBW.out.trans (hb.mono HBW.out.size)
   first | (have HRK : Hid (er = 0 → (∀ o ∈ X0.p.ops, o.kind ≠ 0 ∧ ∀ m ∈ o.arms, m.pat ≠ ⟨#[]⟩) → ∀ W', Keep (fun k => k = gq) wn W' → RefD w2.heap.size W' X0 (.agg cs.toArray)) := fun h0 hg W' hk => ((HRD.out h0).unzero HGQ.out zeroRow_D hg hk HGL.out).mono HSW.out) | skip
   clear HBW hb CQ hr hl ha HO2
   have HBW := HBWn
   clear HBWn
   obtain ⟨wc, hwc⟩ : ∃ y, y = wn := ⟨_, rfl⟩
   subst hwc
   go_wp2_with fail
   refine KT.keep (inBW HBW.out) ?_
   iterate 3 (refine wpOrdT_val rfl rfl ?_; go_big_quiet_step (fail); refine wpQuiet_nil ?_)
 rotate_left 2
 focus
  go_wp2_with fail
  obtain ⟨wd, hwd⟩ : ∃ W, wc.alloc (.cells #[.int .i64 0, .int .i64 0, .int .i64 0, .int .i64 0, .int .i64 0, .int .i64 0, .string ⟨#[]⟩, .int .i64 0, .int .i64 0, .slice none 0 0, .int .i64 0, .int .i64 0, .int .i64 0, .int .i64 0, .int .i64 0, .int .i64 0, .string ⟨#[]⟩, .int .i64 0, .string ⟨#[]⟩, .int .i64 0, .slice none 0 0, .string ⟨#[]⟩, .string ⟨#[]⟩, .string ⟨#[]⟩, .int .i64 0, .int .i64 0, .bool false, .int .i64 0] 41) = W := ⟨_, rfl⟩
  obtain ⟨gq, hgq⟩ : ∃ y, wc.heap.size = y := ⟨_, rfl⟩
  have HGQ : Hid (Blk wd gq 41 #[.int .i64 0, .int .i64 0, .int .i64 0, .int .i64 0, .int .i64 0, .int .i64 0, .string ⟨#[]⟩, .int .i64 0, .int .i64 0, .slice none 0 0, .int .i64 0, .int .i64 0, .int .i64 0, .int .i64 0, .int .i64 0, .int .i64 0, .string ⟨#[]⟩, .int .i64 0, .string ⟨#[]⟩, .int .i64 0, .slice none 0 0, .string ⟨#[]⟩, .string ⟨#[]⟩, .string ⟨#[]⟩, .int .i64 0, .int .i64 0, .bool false, .int .i64 0]) := by rw [← hwd, ← hgq]; exact Blk.new wc _ _
  have hbd : Below wc.heap.size wc wd := by rw [← hwd]; exact (Below.refl _ _).alloc (Nat.le_refl _) _
  have HBWn : Hid (Below w2.heap.size w2 wd) := HBW.out.trans (hbd.mono HBW.out.size)
  have HGE : Hid (w2.heap.size ≤ gq) := by rw [← hgq]; exact HBW.out.size
  first | (have HRK : Hid (er = 0 → (∀ o ∈ X0.p.ops, o.kind ≠ 0 ∧ ∀ m ∈ o.arms, m.pat ≠ ⟨#[]⟩) → ∀ W', Keep (fun k => k = gq) wd W' → RefD w2.heap.size W' X0 (.agg cs.toArray)) := fun h0 _ W' hk => ((HRD.out h0).mono HSW.out).below (hbd.trans (hk.below hbd.size (fun k (e : k = gq) => by rw [e, ← hgq]; exact Nat.le_refl _)))) | skip
  rw [hwd, hgq]
  try (have HO3 := hid (HO2.out.below hbd (Nat.le_refl _)); clear HO2; have HO2 := HO3; clear HO3)
  clear HBW hwd hgq hbd
  have HBW := HBWn
  clear HBWn
  obtain ⟨wc, hwc⟩ : ∃ y, y = wd := ⟨_, rfl⟩
  subst hwc
  refine KT.keep (inBW HBW.out) ?_
  refine wpOrdT_op rfl ?_
  have CQ := hid (CFP.out wc (HB2.out.trans (HBW.out.mono HB2.out.size)))
  go_wp2_with fail
  refine CQ.out.mono ?_
  rintro en wn ⟨A2, c2, rfl, ho2, hb⟩
  have HBWn : Hid (Below w2.heap.size w2 wn) := HBW.out.trans (hb.mono HBW.out.size)
  have HO2 := hid ho2
  try (have HGQ2 := hid (HGQ.out.below hb HGQ.out.lt); clear HGQ; have HGQ := HGQ2; clear HGQ2)
  clear HBW hb CQ ho2
  have HBW := HBWn
  clear HBWn
  obtain ⟨wc, hwc⟩ : ∃ y, y = wn := ⟨_, rfl⟩
  subst hwc
  go_wp2_with fail
  refine KT.keep (inBW HBW.out) ?_
  refine wpOrdT_op rfl ?_
  have CQ := hid (CRN.out wc A2 c2 _ HO2.out)
  go_wp2_with fail
  refine CQ.out.mono ?_
  rintro en wn ⟨hb, cs, rfl, hl, ha, hr⟩
  have HL := hid hl
  have HA := hid ha
  have HRD := hid hr
  try (have HGL : Hid (gq < wc.heap.size) := HGQ.out.lt)
  have HSW : Hid (w2.heap.size ≤ wc.heap.size) := HBW.out.size
  try (have HGQ2 := hid (HGQ.out.below hb HGQ.out.lt); clear HGQ; have HGQ := HGQ2; clear HGQ2)
  have HBWn : Hid (Below w2.heap.size w2 wn) := HBW.out.trans (hb.mono HBW.out.size)
  first | (have HRK : Hid (er = 0 → (∀ o ∈ X0.p.ops, o.kind ≠ 0 ∧ ∀ m ∈ o.arms, m.pat ≠ ⟨#[]⟩) → ∀ W', Keep (fun k => k = gq) wn W' → RefD w2.heap.size W' X0 (.agg cs.toArray)) := fun h0 hg W' hk => ((HRD.out h0).unzero HGQ.out zeroRow_D hg hk HGL.out).mono HSW.out) | skip
  clear HBW hb CQ hr hl ha HO2
  have HBW := HBWn
  clear HBWn
  obtain ⟨wc, hwc⟩ : ∃ y, y = wn := ⟨_, rfl⟩
  subst hwc
  go_wp2_with fail
  refine KT.keep (inBW HBW.out) ?_
  iterate 3 (refine wpOrdT_val rfl rfl ?_; go_big_quiet_step (fail); refine wpQuiet_nil ?_)
 all_goals
  refine wpOrdT_op rfl ?_
  have HSZ1 : Hid ((Tryz.prog.info? 41).map (·.size) = some cs.toArray.size) := by rw [Hid, Tryz.sizeD, List.size_toArray, HL.out]
  have HSZ2 : Hid ((#[.int .i64 0, .int .i64 0, .int .i64 0, .int .i64 0, .int .i64 0, .int .i64 0, .string ⟨#[]⟩, .int .i64 0, .int .i64 0, .slice none 0 0, .int .i64 0, .int .i64 0, .int .i64 0, .int .i64 0, .int .i64 0, .int .i64 0, .string ⟨#[]⟩, .int .i64 0, .string ⟨#[]⟩, .int .i64 0, .slice none 0 0, .string ⟨#[]⟩, .string ⟨#[]⟩, .string ⟨#[]⟩, .int .i64 0, .int .i64 0, .bool false, .int .i64 0] : Array Value).size = cs.toArray.size) := by
   have h28 : cs.toArray.size = 28 := by rw [List.size_toArray, HL.out]
   rw [Hid, h28]; rfl
  go_wp2_with (refine wpList_store_row rfl 41 _ _ rfl gq cs.toArray rfl rfl 41 _ HGQ.out HSZ1.out HSZ2.out HA.out ?_)
  refine KT.past rfl ?_
  refine wpOrdT_val rfl rfl ?_
  simp only [Act.put]
  go_big_quiet_step (fail)
  refine wpQuiet_nil ?_
  refine wpOrdT_nil ?_
  obtain ⟨we, hwe⟩ : ∃ W, wc.setRow gq cs.toArray = W := ⟨_, rfl⟩
  have HKE : Hid (Keep (fun k => k = gq) wc we) := by rw [← hwe]; exact Keep.setRow (fun k => k = gq) _ gq _ rfl
  have HQE : Hid (Blk we gq 41 cs.toArray) := by rw [← hwe]; exact HGQ.out.setRow _
  have HBE2 : Hid (Below w2.heap.size w2 we) := HBW.out.trans (HKE.out.below HBW.out.size (fun k (e : k = gq) => by rw [e]; exact HGE.out))
  have HRE := hid (HR2.out.below HBE2.out HR2.out.lt)
  have HBE : Hid (Below w.heap.size w we) := HB2.out.trans (HBE2.out.mono HB2.out.size)
  have HDE : Hid (er = 0 → ∃ d B F, q = some ⟨d, 0, none⟩ ∧ w.heap.size ≤ B ∧ ∀ W, Below we.heap.size we W → (∃ w0, DialAt B F w0 (W.setRow gr cs.toArray) d X0) ∧ RefD w.heap.size (W.setRow gr cs.toArray) X0 (.agg cs.toArray)) := fun h0 => by
   obtain ⟨w0, d, B, F, h1, h2, h3⟩ := HDD.out h0
   have h5 : DialAt B F w0 we d X0 := h3.below HBE2.out
   have hgood := prog_full h5.okD.pgood
   refine ⟨d, B, F, h1, by have := HS2.out; omega, fun W hW => ⟨(h5.below hW).unzero (cs := cs) (Nat.lt_of_lt_of_le HS2.out.1 h2) (HRE.out.below hW HRE.out.lt) zeroRow_D, ?_⟩⟩
   exact (((HRK.out h0 hgood we HKE.out).below hW).unzero (HRE.out.below hW HRE.out.lt) zeroRow_D hgood (Keep.setRow (fun k => k = gr) _ gr _ rfl) (Nat.lt_of_lt_of_le HS2.out.1 HS2.out.2.1)).mono (by have := HB2.out.size; omega)
  have HSZ3 : Hid ((Tryz.prog.info? 41).map (·.size) = some cs.length) := by rw [Hid, Tryz.sizeD, HL.out]
  rw [hwe]
  clear hwe HKE HGQ HBW HBE2 HRK HRD HDD HR2 HX2 HB2 HS2 HGE X1 X2 X3 X4 X5 X6 X7 X8 X9 X10
  have hql := HQE.out.lt
  rcases Decidable.em (er = 0) with h0 | h0
  ·obtain ⟨d, B', F, h1, h2, h3⟩ := HDE.out h0
   have HF := hid (And.intro h2 h3)
   have hb0 : ((er : Int) == 0) = true := by rw [beq_iff_eq]; omega
   have HERR2 : Hid (erOf _ _ = 0) := HERR.out.trans h0
   subst h1
   clear HDE h2 h3 h0 HERR
   go_upto_region 3 with fail
   refine wp_region_ordT we.heap.size [13] (.val 0 (.val 2 (.val 3 (.val 4 (.val 5 (.val 6 (.val 7 (.val 8 (.val 9 (.val 10 (.val 11 (.val 12 (.op 1 (.op 13 (.val 14 (.nil)))))))))))))))) (by kernel_rfl) (by kernel_rfl) ?_
   obtain ⟨wc, hwc⟩ : ∃ W, we.drewN 1 = W := ⟨_, rfl⟩
   have HBW : Hid (Below we.heap.size we wc) := by rw [← hwc]; exact drewN_below we 1
   rw [hwc]
   clear hwc
   iterate 12 (refine wpOrdT_val rfl rfl ?_; go_big_quiet_step (fail); refine wpQuiet_nil ?_)
   refine wpOrdT_op rfl ?_
   go_wp2_with (refine wpList_load_mid rfl 41 _ rfl gq 0 rfl cs _ (Blk.range (HQE.out.below HBW.out HQE.out.lt)) Tryz.underlying41 rfl HSZ3.out ?_)
   refine KT.same ?_
   refine wpOrdT_op rfl ?_
   go_wp2_with (refine wpList_store_row rfl 41 _ _ rfl gr cs.toArray rfl rfl 41 _ (HRE.out.below HBW.out HRE.out.lt) HSZ1.out HSZ2.out HA.out ?_)
   refine KT.past rfl ?_
   refine wpOrdT_val rfl rfl ?_
   simp only [Act.put, List.setIfInBounds_toArray, List.set_cons_succ, List.set_cons_zero]
   go_big_quiet_step (fail)
   refine wpQuiet_nil ?_
   refine wpOrdT_nil ?_
   go_wp2_with fail
   have hf := finRow0 (xs := cs) (HRE.out.below HBW.out HRE.out.lt) (HBE.out.trans (HBW.out.mono HBE.out.size)) HNE.out.2.2 Tryz.underlying41 rfl HSZ3.out
   refine bodyPost_ret (res_three (ResIs.tmp rfl) (ResIs.cell rfl hf.1) (ResIs.tmp rfl) Tryz.results14) rfl ?_
   rw [← HQ.out]
   exact ⟨hf.2.1, _, cs, true, rfl, HL.out, HA.out, by rw [HERR2.out]; rfl, fun _ => by obtain ⟨⟨w5, h5⟩, h6⟩ := HF.out.2 _ HBW.out; rw [← HX0.out] at h5 h6; exact ⟨w5, d, B', F, rfl, HF.out.1, h5, h6⟩⟩
  ·have hb0 : ((er : Int) == 0) = false := by rw [beq_eq_false_iff_ne]; omega
   have HERR2 : Hid (erOf _ _ ≠ 0) := fun h => h0 (HERR.out.symm.trans h)
   clear HDE h0 HERR
   go_upto_region 3 with fail
   refine wp_region_ordT we.heap.size [13] (.val 0 (.val 2 (.val 3 (.val 4 (.val 5 (.val 6 (.val 7 (.val 8 (.val 9 (.val 10 (.val 11 (.val 12 (.op 1 (.op 13 (.val 14 (.nil)))))))))))))))) (by kernel_rfl) (by kernel_rfl) ?_
   obtain ⟨wc, hwc⟩ : ∃ W, we.drewN 1 = W := ⟨_, rfl⟩
   have HBW : Hid (Below we.heap.size we wc) := by rw [← hwc]; exact drewN_below we 1
   rw [hwc]
   clear hwc
   iterate 12 (refine wpOrdT_val rfl rfl ?_; go_big_quiet_step (fail); refine wpQuiet_nil ?_)
   refine wpOrdT_op rfl ?_
   go_wp2_with (refine wpList_load_mid rfl 41 _ rfl gq 0 rfl cs _ (Blk.range (HQE.out.below HBW.out HQE.out.lt)) Tryz.underlying41 rfl HSZ3.out ?_)
   refine KT.same ?_
   refine wpOrdT_op rfl ?_
   go_wp2_with (refine wpList_store_row rfl 41 _ _ rfl gr cs.toArray rfl rfl 41 _ (HRE.out.below HBW.out HRE.out.lt) HSZ1.out HSZ2.out HA.out ?_)
   refine KT.past rfl ?_
   refine wpOrdT_val rfl rfl ?_
   simp only [Act.put, List.setIfInBounds_toArray, List.set_cons_succ, List.set_cons_zero]
   go_big_quiet_step (fail)
   refine wpQuiet_nil ?_
   refine wpOrdT_nil ?_
   go_wp2_with fail
   have hf := finRow0 (xs := cs) (HRE.out.below HBW.out HRE.out.lt) (HBE.out.trans (HBW.out.mono HBE.out.size)) HNE.out.2.2 Tryz.underlying41 rfl HSZ3.out
   refine bodyPost_ret (res_three (ResIs.tmp rfl) (ResIs.cell rfl hf.1) (ResIs.tmp rfl) Tryz.results14) rfl ?_
   rw [← HQ.out]
   exact ⟨hf.2.1, _, cs, false, rfl, HL.out, HA.out, (decide_eq_false HERR2.out).symm, fun h => by cases h⟩
theorem enters_p (x : DialV) : x.enters.p = x.p := by unfold DialV.enters; (repeat' split) <;> rfl
theorem come_p (x : DialV) (tt : Nat) : (x.come tt).p = x.p := enters_p _
theorem jump_p (x : DialV) (what : Nat) (tt : Int) : (x.jump what tt).1.p = x.p := by
 unfold DialV.jump
 split
 ·rfl
 ·split
  ·rfl
  ·exact come_p _ _
theorem look_p (x : DialV) : x.look.1.p = x.p := by
 unfold DialV.look
 simp only
 split
 ·exact jump_p _ _ _
 ·split
  ·rfl
  ·split
   ·exact jump_p _ _ _
   ·split
    ·exact jump_p _ _ _
    ·rfl
theorem does_p (x : DialV) : x.does.1.p = x.p := by
 unfold DialV.does
 split
 ·rfl
 ·split
  ·unfold DialV.send; split
   ·rfl
   ·exact come_p _ _
  ·split
   ·exact look_p _
   ·split
    ·exact jump_p _ _ _
    ·split
     ·exact come_p _ _
     ·split <;> rfl
theorem step_p (x : DialV) (now : Int) : (x.step now).1.p = x.p := by
 unfold DialV.step
 split
 ·rfl
 ·exact does_p _
theorem put_p (x : DialV) (b : ByteArray) : (x.put b).1.p = x.p := by unfold DialV.put; split <;> rfl
theorem ends_p (x : DialV) : x.ends.p = x.p := by unfold DialV.ends; split <;> rfl
theorem take_p (x : DialV) (z : Int) : (x.take z).p = x.p := by unfold DialV.take; split <;> rfl
theorem cuts_p (x : DialV) (t : Int) : (x.cuts t).p = x.p := by unfold DialV.cuts; split <;> rfl
theorem ba_append_nil (a : ByteArray) : a ++ ⟨#[]⟩ = a := by apply ByteArray.ext; simp
theorem ba_split (t : ByteArray) (a b : Nat) (h : a ≤ b) (_ : b ≤ t.size) : t.extract 0 a ++ t.extract a b = t.extract 0 b := by
 apply ByteArray.ext
 simp only [ByteArray.data_append, ByteArray.data_extract]
 rw [Array.extract_append_extract]
 simp [Nat.max_eq_right h]
theorem ba_size0 {a : ByteArray} (h : a.size = 0) : a = ⟨#[]⟩ := (size0 a).2 h
def PdOk (x : DialV) : Prop := x.pd.sent ≤ x.pd.laid ∧ x.pd.laid ≤ x.pd.text.size
structure SendI (x : DialV) (sent part : ByteArray) : Prop where
 rest : part.size ≠ 0 → x.loc < x.p.ops.length ∧ part.size ≤ x.op.text.size ∧ x.op.text.extract 0 part.size = part
 sends : x.st = 0 → x.op.kind = 1 → x.pd.text = x.op.text ∧ part = x.pd.text.extract 0 x.pd.sent
 none : x.st = 0 → x.op.kind ≠ 1 → part.size = 0 ∧ x.pd.sent = x.pd.laid
theorem sendI_enters {y : DialV} {sent : ByteArray} (h : y.pd.sent = y.pd.laid) : SendI y.enters sent ⟨#[]⟩ := by
 refine ⟨fun h2 => absurd rfl h2, fun _ hk => ?_, fun _ hk => ⟨rfl, ?_⟩⟩
 ·have e : y.enters.op = y.op := by unfold DialV.enters; (repeat' split) <;> rfl
  rw [e] at hk ⊢
  have e2 : y.enters = y.writes := by unfold DialV.enters; rw [if_pos hk]
  rw [e2]
  exact ⟨rfl, (extract_nil _ 0).symm⟩
 ·have e : y.enters.op = y.op := by unfold DialV.enters; (repeat' split) <;> rfl
  rw [e] at hk
  unfold DialV.enters
  rw [if_neg hk]
  split
  ·exact h
  ·split <;> exact h
theorem sendI_come {x : DialV} {sent : ByteArray} (tt : Nat) (h : x.pd.sent = x.pd.laid) : SendI (x.come tt) sent ⟨#[]⟩ := sendI_enters h
theorem sendI_stop {x : DialV} {sent part : ByteArray} (n : Nat) (hn : n ≠ 0) (h : SendI x sent part) : SendI (x.stop n) sent part :=
 ⟨h.rest, fun h0 => absurd h0 hn, fun h0 => absurd h0 hn⟩
theorem sendI_jump {x : DialV} {sent : ByteArray} (what : Nat) (tt : Int) (h : SendI x sent ⟨#[]⟩) (he : x.pd.sent = x.pd.laid) : SendI (x.jump what tt).1 sent ⟨#[]⟩ := by
 unfold DialV.jump
 split
 ·exact sendI_stop 2 (by omega) h
 ·split
  ·exact sendI_stop 2 (by omega) h
  ·exact sendI_come (x := x.hop) _ he
theorem SendI.nil {x : DialV} {sent part : ByteArray} (h : SendI x sent part) (h0 : x.st = 0) (hk : x.op.kind ≠ 1) : SendI x sent ⟨#[]⟩ ∧ part = ⟨#[]⟩ := by
 have := ba_size0 (h.none h0 hk).1
 subst this
 exact ⟨h, rfl⟩
theorem looked_sendI {x : DialV} {sent part : ByteArray} (L : LookR) (h : SendI x sent part) : SendI (x.looked L) sent part := ⟨h.rest, h.sends, h.none⟩
theorem sendI_look {x : DialV} {sent : ByteArray} (h : SendI x sent ⟨#[]⟩) (he : x.pd.sent = x.pd.laid) : SendI x.look.1 sent ⟨#[]⟩ ∧ x.look.2.1 ≠ 6 := by
 have hj : ∀ (L : LookR) (what : Nat) (tt : Int), what ≠ 6 → SendI ((x.looked L).jump what tt).1 sent ⟨#[]⟩ ∧ ((x.looked L).jump what tt).2 ≠ 6 := fun L what tt hw => by
  refine ⟨sendI_jump what tt (looked_sendI L h) he, ?_⟩
  unfold DialV.jump
  split
  ·exact hw
  ·split
   ·show (11 : Nat) ≠ 6; omega
   ·exact hw
 unfold DialV.look
 simp only
 split
 ·exact hj _ 2 _ (by omega)
 ·split
  ·exact ⟨sendI_stop 4 (by omega) (looked_sendI _ h), by show (13 : Nat) ≠ 6; omega⟩
  ·split
   ·exact hj _ 4 _ (by omega)
   ·split
    ·exact hj _ 3 _ (by omega)
    ·exact ⟨looked_sendI _ h, by show (1 : Nat) ≠ 6; omega⟩
theorem sendI_does {x : DialV} {sent part : ByteArray} (h : SendI x sent part) (h0 : x.st = 0) (hp : PdOk x) (hr : x.op.kind = 1 → x.due.over x.now = 0 → x.pd.laid = x.pd.sent) :
  if x.does.2.1 = 6 then x.loc < x.p.ops.length ∧ part = x.op.text ∧ ∀ s, SendI x.does.1 s ⟨#[]⟩ else SendI x.does.1 sent part := by
 unfold DialV.does
 by_cases ho : x.due.over x.now ≠ 0
 ·rw [if_pos ho]
  have : (if x.due.over x.now = 3 then 12 else 14) ≠ 6 := by split <;> omega
  rw [if_neg this]
  exact sendI_stop _ ho h
 rw [if_neg ho]
 have ho0 : x.due.over x.now = 0 := by omega
 by_cases hk1 : x.op.kind = 1
 ·rw [if_pos hk1]
  unfold DialV.send
  by_cases hl : x.pd.laid < x.pd.text.size
  ·rw [if_pos hl]
   rw [if_neg (show (5 : Nat) ≠ 6 by omega)]
   refine ⟨h.rest, fun h1 h2 => ?_, fun h1 h2 => absurd hk1 h2⟩
   exact h.sends h1 h2
  ·rw [if_neg hl]
   have hs := h.sends h0 hk1
   have hls := hr hk1 ho0
   have hfull : part = x.op.text := by
    rw [hs.2, ← hs.1, ← hls, show x.pd.laid = x.pd.text.size by have := hp.2; omega]
    apply ByteArray.ext; simp
   rw [if_pos rfl]
   exact ⟨op_lt x (by omega), hfull, fun s => sendI_come _ hls.symm⟩
 rw [if_neg hk1]
 obtain ⟨hn, rfl⟩ := h.nil h0 hk1
 have he := (h.none h0 hk1).2
 by_cases hk2 : x.op.kind = 2
 ·rw [if_pos hk2]
  have := sendI_look hn he
  rw [if_neg this.2]
  exact this.1
 rw [if_neg hk2]
 by_cases hk3 : x.op.kind = 3
 ·rw [if_pos hk3]
  have : (x.jump 7 x.op.tt).2 ≠ 6 := by
   unfold DialV.jump
   split
   ·show (7 : Nat) ≠ 6; omega
   ·split
    ·show (11 : Nat) ≠ 6; omega
    ·show (7 : Nat) ≠ 6; omega
  rw [if_neg this]
  exact sendI_jump _ _ hn he
 rw [if_neg hk3]
 by_cases hk4 : x.op.kind = 4
 ·rw [if_pos hk4]
  rw [if_neg (show (8 : Nat) ≠ 6 by omega)]
  exact sendI_come _ he
 rw [if_neg hk4]
 by_cases hk6 : x.op.kind = 6
 ·rw [if_pos hk6]
  rw [if_neg (show (10 : Nat) ≠ 6 by omega)]
  exact sendI_stop 2 (by omega) hn
 rw [if_neg hk6]
 rw [if_neg (show (9 : Nat) ≠ 6 by omega)]
 exact sendI_stop 1 (by omega) hn
theorem clock_sendI {x : DialV} {sent part : ByteArray} (now : Int) (h : SendI x sent part) : SendI (x.clock now) sent part := ⟨h.rest, h.sends, h.none⟩
theorem sendI_step {x : DialV} {sent part : ByteArray} (h : SendI x sent part) (hp : PdOk x) (now : Int) :
  if (x.step now).2.2 = true ∧ (x.step now).2.1.what = 6 then (x.step now).2.1.loc < x.p.ops.length ∧ part = (x.p.ops.getD (x.step now).2.1.loc dNone).text ∧ ∀ s, SendI (x.step now).1 s ⟨#[]⟩ else SendI (x.step now).1 sent part := by
 by_cases hr : x.ready now = false
 ·have e : x.step now = (x, ⟨0, 0, 0, 0, 0, 0⟩, false) := by unfold DialV.step; rw [if_pos hr]
  rw [e, if_neg (by simp)]
  exact h
 ·have e : x.step now = ((x.clock now).does.1, ⟨(x.clock now).now, (x.clock now).loc, (x.clock now).does.2.1, (x.clock now).does.2.2.1, (x.clock now).does.2.2.2, (x.clock now).does.1.st⟩, true) := by unfold DialV.step; rw [if_neg hr]
  have hr2 : x.ready now = true := by simpa using hr
  unfold DialV.ready at hr2
  rw [Bool.and_eq_true, decide_eq_true_eq] at hr2
  have hm : max now x.now = (x.clock now).now := by show max now x.now = max x.now now; omega
  have key := sendI_does (clock_sendI now h) hr2.1 hp (fun hk ho => by
   have h2 := hr2.2
   unfold DialV.readyM at h2
   rw [hm] at h2
   have ho2 : x.due.over (x.clock now).now = 0 := ho
   rw [if_neg (by omega), if_pos (show x.op.kind = 1 from hk), decide_eq_true_eq] at h2
   exact h2)
  rw [e]
  simp only [true_and]
  exact key
theorem sendI_take {x : DialV} {sent part : ByteArray} (h : SendI x sent part) (hp : PdOk x) (z : Int) : SendI (x.take z) sent (part ++ x.took z) := by
 unfold DialV.take DialV.took
 by_cases h0 : x.st ≠ 0
 ·rw [if_pos h0, if_pos h0, ba_append_nil]; exact h
 rw [if_neg h0, if_neg h0]
 have h00 : x.st = 0 := by omega
 have hz := hp.1
 have hz2 := hp.2
 by_cases hk : x.op.kind = 1
 ·obtain ⟨e1, e2⟩ := h.sends h00 hk
  have hT : x.pd.takeN z ≤ x.pd.laid - x.pd.sent := by unfold PendV.takeN; omega
  have e3 : part ++ x.pd.took z = x.pd.text.extract 0 (x.pd.sent + x.pd.takeN z) := by
   rw [e2]; unfold PendV.took; exact ba_split _ _ _ (by omega) (by omega)
  have hsz : (x.pd.text.extract 0 (x.pd.sent + x.pd.takeN z)).size = x.pd.sent + x.pd.takeN z := by
   simp only [ByteArray.size_extract]; omega
  rw [e3]
  refine ⟨fun _ => ⟨op_lt x (by omega), ?_, ?_⟩, fun _ _ => ⟨e1, rfl⟩, fun _ h2 => absurd hk h2⟩
  ·show _ ≤ x.op.text.size
   rw [hsz, ← e1]; omega
  ·show x.op.text.extract 0 _ = _
   rw [hsz, ← e1]
 ·obtain ⟨e1, e2⟩ := h.none h00 hk
  have hT : x.pd.takeN z = 0 := by unfold PendV.takeN; omega
  have e3 : x.pd.took z = ⟨#[]⟩ := by unfold PendV.took; rw [hT]; exact extract_nil _ _
  rw [e3, ba_append_nil]
  refine ⟨h.rest, fun h1 h2 => absurd h2 hk, fun _ _ => ⟨e1, ?_⟩⟩
  show x.pd.sent + x.pd.takeN z = x.pd.laid
  omega
theorem sendI_put {x : DialV} {sent part : ByteArray} (h : SendI x sent part) (b : ByteArray) : SendI (x.put b).1 sent part := by
 unfold DialV.put; split
 ·exact h
 ·exact ⟨h.rest, h.sends, h.none⟩
theorem sendI_ends {x : DialV} {sent part : ByteArray} (h : SendI x sent part) : SendI x.ends sent part := by
 unfold DialV.ends; split
 ·exact h
 ·exact ⟨h.rest, h.sends, h.none⟩
theorem sendI_cuts {x : DialV} {sent part : ByteArray} (h : SendI x sent part) (t : Int) : SendI (x.cuts t) sent part := by
 unfold DialV.cuts; split
 ·exact h
 ·exact ⟨h.rest, h.sends, h.none⟩
theorem DialAt.pdOk {B d : Nat} {F : Nat → Prop} {w0 w : World} {x : DialV} (h : DialAt B F w0 w d x) : PdOk x := by
 obtain ⟨gi, gb, gh, gp, F2, A, c, h⟩ := h
 exact ⟨h.pend.2.1, h.pend.2.2.1⟩
theorem few_text {p : ProgV} {k : Nat} (hg : (wrongM (fewP p 9)).2 = 0) (hk : k < (fewP p 9).ops.length) : k < p.ops.length ∧ ((fewP p 9).ops.getD k dNone).text = (p.ops.getD k dNone).text := by
 have hl : (fewP p 9).ops = (p.ops.take 9).map cutO := rfl
 have hk2 := hk
 rw [hl, List.length_map, List.length_take] at hk2
 have hkp : k < p.ops.length := by omega
 refine ⟨hkp, ?_⟩
 have ht := opE_text _ _ ((wrongM_zero _ hg).2.2 _ (List.getElem_mem hk))
 rw [List.getD_eq_getElem?_getD, List.getElem?_eq_getElem hk, List.getD_eq_getElem?_getD, List.getElem?_eq_getElem hkp]
 simp only [Option.getD_some]
 have e : (fewP p 9).ops[k]'hk = cutO (p.ops[k]'hkp) := by
  simp only [hl, List.getElem_map, List.getElem_take]
 rw [e] at ht ⊢
 show cutM 300 _ = _
 have ht2 : (cutM 300 (p.ops[k]'hkp).text).size ≤ 256 := ht
 unfold cutM at ht2 ⊢
 split
 ·rename_i h; rw [if_pos h, ByteArray.size_extract] at ht2; omega
 ·rfl
end Go.Proofs.YtpkkfdmhbbipoaaGreat
