/- HoldFinds: for every list of texts, text and byte the law answers true. No condition. -/
import Derived.Test.YtokeacnanfgmbaaPk
import Derived.Test.YtokeacnanfgmbaaMh
import Derived.Test.YtokeacnanfgmbaaMl
import Derived.Test.YtokeacnanfgmbaaMi
import Derived.Test.YtokeacnanfgmbaaMm
namespace Go.Proofs.Ytokeacnanfgmbaa
open Go.RowKit PopT

theorem cutC_any (s : ByteArray) (m : Nat) (w : World) (hs : s.size ≤ 9223372036854775807) (hm : m ≤ 1000000) :
    Calls Try.prog 21 #[.string s, .int .i64 (m : Int)] w fun e w' => e = .returned (.string (cutM m s)) ∧ w = w' := cut_any s m w hs hm
theorem cutM_list (m : Nat) (s : ByteArray) : (cutM m s).data.toList = s.data.toList.take m := by
  unfold cutM
  have hsz : s.data.toList.length = s.size := by simp
  split
  · exact extract_take s m
  · rw [List.take_of_length_le (by omega)]
theorem newM_err' (ps : List ByteArray) : (newM ps).2.2 ≠ 0 → (newM ps).1 = [] := by
  unfold newM
  by_cases h8 : 8 < ps.length
  · rw [if_pos h8]; intro _; rfl
  · rw [if_neg h8]
    have key : ∀ (ps : List ByteArray) (i : Nat) (acc : List (List Item)), (newGo ps i acc).2.2 ≠ 0 → (newGo ps i acc).1 = [] := by
      intro ps
      induction ps with
      | nil => intro i acc h; exact absurd rfl h
      | cons p ps ih =>
        intro i acc
        rw [newGo_check]
        split
        · intro _; rfl
        · exact ih _ _
    exact key ps 0 []
theorem str_add (a b : List UInt8) (s : ByteArray) (n : Nat) (h : s.data.toList.take n ++ a ++ b = s.data.toList) : (s.extract 0 n) ++ rgT a ++ rgT b = s := by
  apply Go.WideShapes.bytes_inj
  rw [ByteArray.data_append, ByteArray.data_append, Array.toList_append, Array.toList_append, extract_take]
  exact h

theorem Lists.keepG {base : Nat} {w w' : World} {ls : List (List Item)} {vs : List Value} (h : Lists base w ls vs) (hk : Keep (fun k => k < base ∨ w.heap.size ≤ k) w w') : Lists base w' ls vs := by
  refine ⟨h.1, fun i l hi => ?_⟩
  obtain ⟨A, c, hv, ho⟩ := h.2 i l hi
  exact ⟨A, c, hv, hk.own ho (fun k hv hg => by have := ho.lt k hv; omega)⟩
theorem own_keepG {base size n : Nat} {w w' : World} {e : TypeId} {v : Value} {xs : List Value} (h : w.ownsRow base e size v n xs) (hk : Keep (fun k => k < base ∨ w.heap.size ≤ k) w w') : w'.ownsRow base e size v n xs :=
  hk.own h (fun k hv hg => by have := h.lt k hv; omega)

set_option maxRecDepth 20000 in
set_option maxHeartbeats 8000000 in
theorem holdFinds_any (A : Option Addr) (n c : Nat) (ps : List ByteArray) (s1 : ByteArray) (x : Int) (w : World) (hl : ps.length = n) (hs : ∀ p ∈ ps, p.size ≤ 9223372036854775807) (hr : Rd w A (textCells ps)) (h1 : s1.size ≤ 9223372036854775807) (hw : (Lit.int .u8 x).wf = true) :
    Calls Try.prog 7 #[.slice A n c, .string s1, .int .u8 x] w fun e w' => e = .returned (.bool true) ∧ Below w.heap.size w w' := by
  obtain ⟨r, rfl⟩ : ∃ r : Nat, x = r := by
    simp [Lit.wf, IntKind.min, IntKind.max, IntKind.signed, IntKind.bits] at hw
    exact ⟨x.toNat, by omega⟩
  clear hw
  obtain ⟨win, hwin⟩ : ∃ M, 1 + r % 16 = M := ⟨_, rfl⟩
  have hwin2 : 1 + ((r : Int) % 16) = (win : Int) := by omega
  have hwin3 : 1 ≤ win ∧ win ≤ 16 := by omega
  have hr0 : 0 ≤ (r : Int) % 16 := by omega
  have hr1 : (r : Int) % 16 ≤ 15 := by omega
  clear hwin
  have C0 := hid (fewT_any A n c ps 3 8 w hl hr hs (by omega) (by omega))
  have HQL := hid (fewTM_length ps 3 8)
  have HQS := hid (fewTM_size ps 3 8)
  have HTW := hid (fewTM_twice ps 3 8)
  obtain ⟨q, hq⟩ : ∃ q, fewTM ps 3 8 = q := ⟨_, rfl⟩
  rw [hq] at C0 HQL HQS HTW
  obtain ⟨m, hm⟩ : ∃ m, q.length = m := ⟨_, rfl⟩
  have HM := hid hm
  rw [hm] at C0 HQL
  have hm10 : m ≤ 3 := HQL.out
  have HSZ : Hid (∀ p ∈ q, p.size ≤ 1000000) := fun p hp => by have := HQS.out p hp; omega
  have K1 := hid (fun W => cutC_any s1 14 W h1 (by omega))
  have hz1 := cutM_size 14 s1
  obtain ⟨t, ht⟩ : ∃ t, cutM 14 s1 = t := ⟨_, rfl⟩
  rw [ht] at K1 hz1
  have HTS := hid (size_list t)
  have K2 := hid (fun W => cutC_any t win W (by omega) (by omega))
  have HCL := hid (cutM_list win t)
  have hz2 := cutM_size win t
  obtain ⟨u, hu⟩ : ∃ u, cutM win t = u := ⟨_, rfl⟩
  rw [hu] at K2 HCL hz2
  have CN := hid (fun W => hoNew_any (win : Int) W (by omega) (by omega))
  rw [show clampN (win : Int) 4096 = win from by rw [clampN, if_neg (by omega), if_neg (by omega)]; omega] at CN
  have CR := hid (fun W => rgNew_any 32 W (by omega) (by omega))
  rw [show clampN 32 4096 = 32 from rfl] at CR
  have CLV := hid (fun W => lives19_any W)
  clear hq hm hl hs hr h1 ht hu
  obtain ⟨Q, hQ⟩ : ∃ Q : Ending → World → Prop, (fun e w' => e = .returned (.bool true) ∧ Below w.heap.size w w') = Q := ⟨_, rfl⟩
  have HQ : Hid (∀ W, Below w.heap.size w W → Q (.returned (.bool true)) W) := fun W h => by rw [← hQ]; exact ⟨rfl, h⟩
  rw [show (fun e w' => e = Ending.returned (.bool true) ∧ Below w.heap.size w w') = Q from hQ]
  clear hQ
  go_enter Try.func7, Try.ntmps7
  go_wp2_with fail
  refine C0.out.mono ?_
  rintro en w1 ⟨A1, c1, rfl, hown1, hb1⟩
  have HO1 := hid hown1; have HB1 := hid hb1
  clear C0 hown1 hb1
  go_wp2_with fail
  refine (K1.out _).mono ?_
  rintro en w1' ⟨rfl, rfl⟩
  clear K1
  go_wp2_with fail
  refine (CN.out _).mono ?_
  rintro en w2 ⟨rfl, hh2, hb2⟩
  have HH2 := hid hh2
  have HO2 := hid (own_below HO1.out hb2)
  have HB2 := hid (HB1.out.trans (hb2.mono HB1.out.size))
  have hlt2 := hh2.lt
  have hsz1 := HB1.out.size
  obtain ⟨h, hhe⟩ : ∃ h, w1.heap.size = h := ⟨_, rfl⟩
  have HE := hid hhe
  rw [hhe] at HH2 hlt2 ⊢
  have CR2 := hid (CR.out w2)
  clear CN hh2 hb2 HO1 HB1 CR hhe
  go_wp2_with fail
  refine CR2.out.mono ?_
  rintro en w3 ⟨g, gb, rfl, hr3, hg1, hg2, hb3⟩
  have HR3 := hid hr3
  have HH3 := hid (HH2.out.below hb3)
  have HO3 := hid (own_below HO2.out hb3)
  have HB3 := hid (HB2.out.trans (hb3.mono HB2.out.size))
  have hgl := hr3.lt
  have hlt3 := HH3.out.lt
  have hwh : w.heap.size ≤ h := by have := HE.out; omega
  have FT3 : Hid (Foot w.heap.size (fun k => k = h) w3 g gb) := ⟨fun k hk => by omega, fun k hk => by omega, fun k hk e => by rcases e with e | e <;> omega, hgl.1, hgl.2, by omega, by omega, HB3.out.size⟩
  clear CR2 hr3 hb3 HH2 HO2 HB2 hlt2
  -- the reference's patterns
  have C3 := hid (newF_any A1 m c1 q w3 HM.out (by omega) HSZ.out (Rd_of_own HO3.out))
  have HERR := hid (newM_err' q)
  have HGD := hid (newM_good q)
  have HFEW := hid (newM_few q)
  have CBG := hid (fun F S0 ps0 P0 A' c' W (a1 : HoldAt h F W h win S0 0 ps0 P0) a2 a3 a4 => hoBegin_any h h win 0 F S0 ps0 P0 A' m c' q W a1 HM.out (by omega) HSZ.out a2 a3 a4)
  obtain ⟨⟨ls, i, e⟩, hR⟩ : ∃ R, newM q = R := ⟨_, rfl⟩
  rw [hR] at C3 HERR HGD HFEW CBG
  simp only at HERR HGD HFEW CBG
  clear hR
  go_wp2_with fail
  refine C3.out.mono ?_
  rintro en w4 ⟨AL, cl, vs, rfl, hownL, hls, hb4⟩
  simp only at hownL hls
  obtain ⟨nl, hnl⟩ : ∃ x, ls.length = x := ⟨_, rfl⟩
  have HNL := hid hnl
  simp only [hnl]
  rw [hnl] at hownL HFEW
  have hnl8 : nl ≤ 8 := HFEW.out
  have HOL := hid hownL; have HLS := hid hls
  have hbw4 : w3.heap.size ≤ w4.heap.size := hb4.size
  obtain ⟨G, hG⟩ : ∃ G : Nat → Prop, (fun k => k < w3.heap.size ∨ w4.heap.size ≤ k) = G := ⟨_, rfl⟩
  have HG : Hid (∀ k, G k ↔ (k < w3.heap.size ∨ w4.heap.size ≤ k)) := fun k => by rw [← hG]
  have HFIN : Hid (∀ W, Keep G w4 W → W.ownsRow w3.heap.size 102 1 (.slice AL nl cl) nl vs ∧ Lists w3.heap.size W ls vs) := fun W hk => by
    rw [← hG] at hk
    exact ⟨own_keepG HOL.out hk, HLS.out.keepG hk⟩
  have hgl4 : g < w3.heap.size ∧ gb < w3.heap.size := hgl
  have hlt4 : h < w3.heap.size := hlt3
  clear hG
  have HH4 := hid (HH3.out.below hb4)
  have HR4 := hid (HR3.out.below hb4)
  have HO4 := hid (own_below HO3.out hb4)
  have HB4 := hid (HB3.out.trans (hb4.mono HB3.out.size))
  have FT4 := hid (FT3.out.step hb4.size)
  have C5 := hid (fewT_any A1 m c1 q 3 8 w4 HM.out (Rd_of_own HO4.out) (fun p hp => by have := HQS.out p hp; omega) (by omega) (by omega))
  rw [HTW.out, HM.out] at C5
  have hw3s : w3.heap.size ≤ w4.heap.size := hb4.size
  clear C3 hownL hls hb4 HH3 HR3 HO3 HB3 FT3 hnl
  go_wp2_with fail
  refine C5.out.mono ?_
  rintro en w5 ⟨A5, c5, rfl, hown5, hb5⟩
  have HH5 := hid (HH4.out.below hb5)
  have HR5 := hid (HR4.out.below hb5)
  have HB5 := hid (HB4.out.trans (hb5.mono HB4.out.size))
  have FT5 := hid (FT4.out.step hb5.size)
  have HK5 : Hid (Keep G w4 w5) := Keep.of_below hb5
  have hw45 : w4.heap.size ≤ w5.heap.size := hb5.size
  have hA5 : A5 = none → m = 0 ∧ c5 = 0 := by
    intro hn
    subst hn
    rcases hown5.2 with ⟨hv, h0⟩ | ⟨g', cap, cur, hv, _⟩
    · injection hv with _ _ e3; exact ⟨h0, e3⟩
    · cases hv
  have C6 := hid (CBG.out (fun k => k = h) [] [] none A5 c5 w5 HH5.out (Rd_of_own hown5) hA5 (by have := FT5.out.2.2.2.2.2.2.2; have := HH5.out.lt; omega))
  clear C5 hown5 hb5 HH4 HR4 HB4 FT4 hA5 CBG HO4
  go_wp2_with fail
  refine C6.out.mono ?_
  rintro en w6 ⟨rfl, -, hd1, hd2⟩
  have HD1 := hid hd1
  have HB6 : Hid (Below w.heap.size w w6) := HB5.out.trans (FT5.out.belowF hd2)
  have HR6 : Hid (Rg w6 g gb 32 []) := FT5.out.ring hd2 HR5.out
  have FT6 := hid (FT5.out.up hd2.size)
  have HK6 : Hid (Keep G w4 w6) := HK5.out.trans (hd2.mono (fun k _ hk => (HG.out k).2 (.inl (by omega)))) (fun _ => .inl)
  obtain ⟨F6, hF6⟩ : ∃ F, Fup (fun k => k = h) w5 w6 = F := ⟨_, rfl⟩
  have HF6 : Hid (∀ k, F6 k → k = h ∨ w5.heap.size ≤ k) := fun k hk => by
    rw [← hF6] at hk
    rcases hk with hk | hk
    · exact .inl hk
    · exact .inr hk.1
  rw [hF6] at HD1 FT6
  clear C6 hd1 hd2 HH5 HR5 HB5 FT5 HK5 hF6
  by_cases he : e = 0
  · subst he
    have HH6 := hid (HD1.out rfl)
    have C7 := hid (rgPut_any w6 g gb 32 [] t HR6.out (by omega))
    have HT7 : Hid (([] : List UInt8) ++ t.data.toList.take (min t.size (32 - ([] : List UInt8).length)) = t.data.toList) := by
      rw [Hid, List.nil_append]; exact List.take_of_length_le (by rw [HTS.out]; simp; omega)
    clear HERR HD1
    go_wp2_with fail
    refine C7.out.mono ?_
    rintro en w7 ⟨rfl, hr7, hk7⟩
    rw [HT7.out] at hr7
    have HR7 := hid hr7
    have HH7 := hid (FT6.out.hold hk7 HH6.out)
    have HB7 : Hid (Below w.heap.size w w7) := HB6.out.trans (FT6.out.belowR hk7)
    have FT7 := hid (FT6.out.step hk7.size)
    have HK7 : Hid (Keep G w4 w7) := HK6.out.trans (hk7.mono (fun k _ hk => (HG.out k).2 (.inl (by rcases hk with e | e <;> omega)))) (fun _ => .inl)
    clear C7 HT7 hr7 hk7 HR6 HH6 HB6 FT6 HK6
    have C8 := hid (hoLook_any h h win 0 g gb 32 F6 [] t.data.toList q (some ls) w7 HH7.out HR7.out FT7.out.2.2.1 FT7.out.1 (by have := FT7.out.2.2.2.2.2.2.2; have := HH7.out.lt; omega))
    rw [show (some ls).getD [] = ls from rfl] at C8
    have PF := look_finds win ls t.data.toList
    have PK := look_keeps win ls t.data.toList
    have PB := look_bounds win ls t.data.toList
    have C10 := hid (fun W (hW : Keep G w4 W) => findR10_any w3.heap.size AL nl cl vs ls u W HNL.out hnl8 (Rd_of_own (HFIN.out W hW).1) (HFIN.out W hW).2 (by omega) (fun l hl => (HGD.out l hl).2.2))
    rw [HCL.out] at C10
    obtain ⟨⟨XS, Xs, XR, mt, fl, k, gn, rd⟩, hX⟩ : ∃ X, lookM win ls [] 0 t.data.toList = X := ⟨_, rfl⟩
    obtain ⟨⟨fk, fn, fo⟩, hFD⟩ : ∃ X, findM ls (t.data.toList.take win) = X := ⟨_, rfl⟩
    rw [hX] at C8 PF PK PB
    have HFL := findM_le ls (t.data.toList.take win)
    rw [hFD] at PF C10 HFL
    simp only at C8 PF PK PB C10 HFL
    obtain ⟨rfl, rfl, rfl, hfl⟩ := PF
    rw [HTS.out] at hfl PB
    have HPK1 := hid PK.1
    have hrd := PK.2
    have HADD := hid (str_add XS XR t gn PK.1)
    have hgnl : gn ≤ t.size := by have := HFL; rw [List.length_take, HTS.out] at this; omega
    obtain ⟨nS, hnS⟩ : ∃ x, XS.length = x := ⟨_, rfl⟩
    rw [hnS] at hrd
    have HRD2 : Hid ((rd : Int) = (gn : Int) + (nS : Int)) := by rw [Hid]; omega
    have HFLX := hid hfl
    have hb4 : nS ≤ 16 := by omega
    have hgn : gn ≤ 14 := by omega
    have HXRL : Hid (XR.length ≤ 32) := by have := PB.2; rw [Hid]; omega
    clear hX hFD PK PB hfl hrd HFL
    go_wp2_with fail
    refine C8.out.mono ?_
    rintro en w8 ⟨rfl, hh8, hr8, hk8⟩
    have HH8 := hid hh8; have HR8 := hid hr8
    have HB8 : Hid (Below w.heap.size w w8) := HB7.out.trans (FT7.out.belowB hk8)
    have HK8 : Hid (Keep G w4 w8) := HK7.out.trans (hk8.mono (fun k _ hk => (HG.out k).2 (by
      rcases hk with e | e | e
      · rcases HF6.out k e with e | e <;> omega
      · omega
      · omega))) (fun _ => .inl)
    clear C8 hh8 hr8 hk8 HR7 HH7 HB7 FT7 HK7
    simp only [foundV]
    go_upto_region 10 with fail
    obtain ⟨w9, hw9⟩ : ∃ W, w8.alloc (.cells #[.bool mt, .bool fl, .int .i64 (k : Int), .int .i64 (gn : Int), .int .i64 (rd : Int)] 54) = W := ⟨_, rfl⟩
    have HW89 : Hid (Below w8.heap.size w8 w9) := by rw [← hw9]; exact (Below.refl _ _).alloc (Nat.le_refl _) _
    have HF9 : Hid (Blk w9 w8.heap.size 54 #[.bool mt, .bool fl, .int .i64 (k : Int), .int .i64 (gn : Int), .int .i64 (rd : Int)]) := by rw [← hw9]; exact Blk.new w8 _ _
    rw [hw9]
    clear hw9
    obtain ⟨gf, hgf⟩ : ∃ x, w8.heap.size = x := ⟨_, rfl⟩
    have HH9 := hid (HH8.out.below HW89.out); have HR9 := hid (HR8.out.below HW89.out)
    have HB9 := hid (HB8.out.trans (HW89.out.mono HB8.out.size))
    have HK9 : Hid (Keep G w4 w9) := HK8.out.trans (Keep.of_below (F := G) HW89.out) (fun _ => .inl)
    rw [hgf] at HF9 ⊢
    clear hgf HH8 HR8 HB8 HK8 HW89
    have C11 := hid (C10.out w9 HK9.out)
    clear C10
    go_wp2_with fail
    refine (K2.out _).mono ?_
    rintro en wx ⟨rfl, rfl⟩
    clear K2
    go_wp2_with fail
    refine C11.out.mono ?_
    rintro en wt ⟨rfl, hbt⟩
    have HFT := hid (HF9.out.below hbt HF9.out.lt)
    have HHT := hid (HH9.out.below hbt); have HRT := hid (HR9.out.below hbt)
    have HBT := hid (HB9.out.trans (hbt.mono HB9.out.size))
    clear C11 hbt HF9 HH9 HR9 HB9 HK9 HFIN HOL HLS
    obtain ⟨f0, f1, f2, f3, f4⟩ := fact5 HFT.out
    have hfl' := HFT.out.lt
    have hmm : (mt != mt) = false := by simp
    have hkk : ((k : Int) != (k : Int)) = false := by simp
    have hgg : ((gn : Int) != (gn : Int)) = false := by simp
    have T0 : ∀ q : BW wt.heap.size wt, q.1.cell? ⟨gf, 3, none⟩ = some (.int .i64 (gn : Int)) := fun q => q.cellAt hfl' f3
    have T1 : ∀ q : BW wt.heap.size wt, q.1.cell? ⟨gf, 4, none⟩ = some (.int .i64 (rd : Int)) := fun q => q.cellAt hfl' f4
    have CTx := hid (fun (q : BW wt.heap.size wt) => hoText_any _ _ _ _ _ _ _ _ q.1 (HHT.out.below q.2))
    have CLn := hid (fun (q : BW wt.heap.size wt) => hoLen_any _ _ _ _ _ _ _ _ q.1 (HHT.out.below q.2))
    rw [hnS] at CLn
    have CPk : Hid (∀ q : BW wt.heap.size wt, Calls Try.prog 31 #[.pointer (some ⟨g, 0, none⟩), .int .i64 0, .int .i64 32] q.1 fun e w' => e = .returned (.string (rgT XR)) ∧ Below q.1.heap.size q.1 w') := fun q => by
      have := rgPeek_any q.1 g gb 32 XR 0 32 (HRT.out.below q.2) (by omega) (by omega)
      rwa [show peekT XR 0 32 = XR from peekT_all XR HXRL.out 32 (Nat.le_refl _)] at this
    have CLq := hid (fun (q : BW wt.heap.size wt) => CLV.out q.1)
    clear HFT HHT HRT
    obtain ⟨ts, hts⟩ : ∃ x, rgT XS = x := ⟨_, rfl⟩
    obtain ⟨tr, htr⟩ : ∃ x, rgT XR = x := ⟨_, rfl⟩
    rw [hts] at CTx HADD
    rw [htr] at CPk HADD
    have hzs1 : ((t.extract 0 gn).size : Int) ≤ 8388608 := by rw [ByteArray.size_extract]; omega
    have hzs2 : (ts.size : Int) ≤ 8388608 := by rw [← hts, rgT_size, hnS]; omega
    have hzs3 : (tr.size : Int) ≤ 8388608 := by rw [← htr, rgT_size]; have := HXRL.out; omega
    have hrun1 : ∀ W : World, (Op.stringOp .add (t.extract 0 gn) ts).run Try.prog W = .ok (.string (t.extract 0 gn ++ ts)) W := fun W => run_string_add W _ _ hzs1 hzs2
    have hrun2 : ∀ W : World, (Op.stringOp .add (t.extract 0 gn ++ ts) tr).run Try.prog W = .ok (.string t) W := fun W => by
      have := run_string_add (P := Try.prog) W (t.extract 0 gn ++ ts) tr (by rw [ByteArray.size_append, Int.natCast_add]; rw [ByteArray.size_extract, ← hts, rgT_size, hnS]; omega) hzs3
      rw [this, HADD.out]
    clear hzs1 hzs2 hzs3
    have hgnI : (gn : Int) ≤ (t.size : Int) := by omega
    clear hts htr
    cases mt
    · by_cases hlw : win < t.size
      · have e : fl = true := by rw [HFLX.out]; simp [hlw]
        subst e
        have hlw' : (win : Int) < (t.size : Int) := by omega
        have hrd2 := HRD2.out
        go_wp2_with fail
        refine wp_region_below wt.heap.size (by kernel_rfl) (by kernel_rfl) ?_
        repeat (go_big_quiet_step (first | (go_at_call 28; exact callBW2 (Nat.le_refl _) CTx.out _) | (go_at_call 32; exact callBW2 (Nat.le_refl _) CLn.out _) | (go_at_call 31; exact callBW2 (Nat.le_refl _) CPk.out _) | (go_at_call 25; exact callBW2 (Nat.le_refl _) CLq.out _)))
        refine wpQuiet_nil ?_
        intro w6' hq6
        have HB6' : Hid (Below w.heap.size w w6') := by obtain ⟨q, rfl⟩ := hq6; exact HBT.out.trans (q.2.mono HBT.out.size)
        clear hq6 T0 T1 CTx CLn CPk CLq
        go_wp2_with fail
        try go_ret
        exact HQ.out _ HB6'.out
      · have e : fl = false := by rw [HFLX.out]; simp [hlw]
        subst e
        have hlw' : ¬ (win : Int) < (t.size : Int) := by omega
        have hrd2 := HRD2.out
        go_wp2_with fail
        refine wp_region_below wt.heap.size (by kernel_rfl) (by kernel_rfl) ?_
        repeat (go_big_quiet_step (first | (go_at_call 28; exact callBW2 (Nat.le_refl _) CTx.out _) | (go_at_call 32; exact callBW2 (Nat.le_refl _) CLn.out _) | (go_at_call 31; exact callBW2 (Nat.le_refl _) CPk.out _) | (go_at_call 25; exact callBW2 (Nat.le_refl _) CLq.out _)))
        refine wpQuiet_nil ?_
        intro w6' hq6
        have HB6' : Hid (Below w.heap.size w w6') := by obtain ⟨q, rfl⟩ := hq6; exact HBT.out.trans (q.2.mono HBT.out.size)
        clear hq6 T0 T1 CTx CLn CPk CLq
        go_wp2_with fail
        try go_ret
        exact HQ.out _ HB6'.out
    · have e : fl = false := by rw [HFLX.out]; simp
      subst e
      have hrd2 := HRD2.out
      go_wp2_with fail
      refine wp_region_below wt.heap.size (by kernel_rfl) (by kernel_rfl) ?_
      repeat (go_big_quiet_step (first | (go_at_call 28; exact callBW2 (Nat.le_refl _) CTx.out _) | (go_at_call 32; exact callBW2 (Nat.le_refl _) CLn.out _) | (go_at_call 31; exact callBW2 (Nat.le_refl _) CPk.out _) | (go_at_call 25; exact callBW2 (Nat.le_refl _) CLq.out _)))
      refine wpQuiet_nil ?_
      intro w6' hq6
      have HB6' : Hid (Below w.heap.size w w6') := by obtain ⟨q, rfl⟩ := hq6; exact HBT.out.trans (q.2.mono HBT.out.size)
      clear hq6 T0 T1 CTx CLn CPk CLq
      go_wp2_with fail
      try go_ret
      exact HQ.out _ HB6'.out
  · have he0 : ((e : Int) == 0) = false := by rw [beq_eq_false_iff_ne]; omega
    have he1 : ((e : Int) != 0) = true := by rw [bne, he0]; rfl
    have he2 : ((e : Int) != (e : Int)) = false := by simp
    have LV := hid (CLV.out w6)
    clear he HD1 HERR
    go_wp2_with fail
    refine LV.out.mono ?_
    rintro en wz ⟨rfl, hbz⟩
    have HBZ := hid (HB6.out.trans (hbz.mono HB6.out.size))
    clear LV hbz
    go_wp2_with fail
    try go_ret
    exact HQ.out _ HBZ.out
end Go.Proofs.Ytokeacnanfgmbaa
namespace Go.Proofs.Ytokeacnanfgmbaa
open Go.ChangeShapes Go.WideShapes Go.ChangeAt Go.RowKit Go.WideElems Go.Deep
open Go.ChangeMaps (open_string shut_string)

set_option maxRecDepth 100000 in
theorem holdFinds_lifted (os : Os) (started : os.Started) (H : Type) (enc : TypeId × Value → H) :
    ReturnsInHanded {} Try.checked os 7 .any (Rows.holdFindsSpec.pre6 enc Try.prog Try.f7 [] false) (Rows.holdFindsSpec.post enc Try.prog Try.f7 false true false false) := by
  refine law_lifted 7 Try.f7 Rows.holdFindsSpec os started H enc Try.func7 (by kernel_rfl) (by kernel_rfl) (by kernel_rfl) rfl (fun ds h => ?_)
    (ChangeSpec.witness6 (enc := enc) (C := Try.checked) false ⟨#[], #[.slice none 0 0, .string ⟨#[]⟩, .int .u8 0], []⟩ 8 (by kernel_rfl) (by kernel_rfl) (by kernel_rfl) (by kernel_rfl)) ?_
  · have hn : ds.length = 3 := h
    match ds, hn with
    | [d0, d1, d2], _ => rfl
  · intro W args ds p base hval hA _ _
    rw [show Try.f7.params.toList = [42, 9, 5] from by rw [Try.params7]] at hval hA
    obtain ⟨v0, _, d0, _, p0, _, rfl, rfl, rfl, h0, hA⟩ := all_cons hA
    obtain ⟨v1, _, d1, _, p1, _, rfl, rfl, rfl, h1, hA⟩ := all_cons hA
    obtain ⟨v2, _, d2, _, p2, _, rfl, rfl, rfl, h2, hA⟩ := all_cons hA
    obtain rfl := all_nil hA
    obtain ⟨A0, n0, c0, l0, rfl, hl0, hn0, hr0⟩ := open_strs (hval 0 _ v0 rfl rfl) h0
    obtain ⟨s1, rfl, _, _, hs1⟩ := open_string Try.underlying9 (hval 1 _ v1 rfl rfl) h1
    obtain ⟨x2, rfl, rfl, rfl, hw2⟩ := open_int Try.underlying5 (hval 2 _ v2 rfl rfl) h2
    exact holdFinds_any A0 n0 c0 l0 s1 x2 W hl0 hn0 hr0 hs1 hw2

theorem holdFinds_holds : Rows.HoldFindsSaid :=
  OpenClaim.holds_of_wide 7 Try.f7 rfl rfl rfl rfl rfl rfl rfl ⟨rfl, rfl, rfl, rfl, rfl⟩ rfl rfl rfl rfl rfl (by kernel_rfl) Try.func7 (by kernel_rfl)
    (of_decide_eq_true (by kernel_rfl)) (by unfold Func.isWrapper; first | (rw [if_pos (by decide +kernel)]; kernel_rfl) | (rw [if_neg (by decide +kernel)]; exact ⟨rfl, rfl⟩))
    (fun os started H enc _ => holdFinds_lifted os started H enc)
#print axioms holdFinds_holds
end Go.Proofs.Ytokeacnanfgmbaa
