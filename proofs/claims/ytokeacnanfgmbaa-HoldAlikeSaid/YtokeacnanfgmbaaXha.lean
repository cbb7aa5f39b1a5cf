/- The row of HoldAlike. -/
import Derived.Test.YtokeacnanfgmbaaPk
import Derived.Test.YtokeacnanfgmbaaMh
import Derived.Test.YtokeacnanfgmbaaMl
import Derived.Test.YtokeacnanfgmbaaMi
import Derived.Test.YtokeacnanfgmbaaMm
namespace Go.Proofs.Ytokeacnanfgmbaa
open Go.RowKit PopT

theorem cutC_any (s : ByteArray) (m : Nat) (w : World) (hs : s.size ≤ 9223372036854775807) (hm : m ≤ 1000000) :
    Calls Try.prog 21 #[.string s, .int .i64 (m : Int)] w fun e w' => e = .returned (.string (cutM m s)) ∧ w = w' := cut_any s m w hs hm
theorem cutM_list (m : Nat) (s : ByteArray) : (cutM m s).data.toList = s.data.toList.take m := by
  unfold cutM
  have hsz : s.data.toList.length = s.size := by simp
  split
  · exact extract_take s m
  · rw [List.take_of_length_le (by omega)]
theorem newM_err' (ps : List ByteArray) : (newM ps).2.2 ≠ 0 → (newM ps).1 = [] := by
  unfold newM
  by_cases h8 : 8 < ps.length
  · rw [if_pos h8]; intro _; rfl
  · rw [if_neg h8]
    have key : ∀ (ps : List ByteArray) (i : Nat) (acc : List (List Item)), (newGo ps i acc).2.2 ≠ 0 → (newGo ps i acc).1 = [] := by
      intro ps
      induction ps with
      | nil => intro i acc h; exact absurd rfl h
      | cons p ps ih =>
        intro i acc
        rw [newGo_check]
        split
        · intro _; rfl
        · exact ih _ _
    exact key ps 0 []
theorem str_add (a b : List UInt8) (s : ByteArray) (n : Nat) (h : s.data.toList.take n ++ a ++ b = s.data.toList) : (s.extract 0 n) ++ rgT a ++ rgT b = s := by
  apply Go.WideShapes.bytes_inj
  rw [ByteArray.data_append, ByteArray.data_append, Array.toList_append, Array.toList_append, extract_take]
  exact h

theorem Lists.keepG {base : Nat} {w w' : World} {ls : List (List Item)} {vs : List Value} (h : Lists base w ls vs) (hk : Keep (fun k => k < base ∨ w.heap.size ≤ k) w w') : Lists base w' ls vs := by
  refine ⟨h.1, fun i l hi => ?_⟩
  obtain ⟨A, c, hv, ho⟩ := h.2 i l hi
  exact ⟨A, c, hv, hk.own ho (fun k hv hg => by have := ho.lt k hv; omega)⟩
theorem own_keepG {base size n : Nat} {w w' : World} {e : TypeId} {v : Value} {xs : List Value} (h : w.ownsRow base e size v n xs) (hk : Keep (fun k => k < base ∨ w.heap.size ≤ k) w w') : w'.ownsRow base e size v n xs :=
  hk.own h (fun k hv hg => by have := h.lt k hv; omega)

set_option maxRecDepth 20000 in
set_option maxHeartbeats 8000000 in
theorem holdFinds_any (A : Option Addr) (n c : Nat) (ps : List ByteArray) (s1 : ByteArray) (x : Int) (w : World) (hl : ps.length = n) (hs : ∀ p ∈ ps, p.size ≤ 9223372036854775807) (hr : Rd w A (textCells ps)) (h1 : s1.size ≤ 9223372036854775807) (hw : (Lit.int .u8 x).wf = true) :
    Calls Try.prog 7 #[.slice A n c, .string s1, .int .u8 x] w fun e w' => e = .returned (.bool true) ∧ Below w.heap.size w w' := by
  obtain ⟨r, rfl⟩ : ∃ r : Nat, x = r := by
    simp [Lit.wf, IntKind.min, IntKind.max, IntKind.signed, IntKind.bits] at hw
    exact ⟨x.toNat, by omega⟩
  clear hw
  obtain ⟨win, hwin⟩ : ∃ M, 1 + r % 16 = M := ⟨_, rfl⟩
  have hwin2 : 1 + ((r : Int) % 16) = (win : Int) := by omega
  have hwin3 : 1 ≤ win ∧ win ≤ 16 := by omega
  have hr0 : 0 ≤ (r : Int) % 16 := by omega
  have hr1 : (r : Int) % 16 ≤ 15 := by omega
  clear hwin
  have C0 := hid (fewT_any A n c ps 3 8 w hl hr hs (by omega) (by omega))
  have HQL := hid (fewTM_length ps 3 8)
  have HQS := hid (fewTM_size ps 3 8)
  have HTW := hid (fewTM_twice ps 3 8)
  obtain ⟨q, hq⟩ : ∃ q, fewTM ps 3 8 = q := ⟨_, rfl⟩
  rw [hq] at C0 HQL HQS HTW
  obtain ⟨m, hm⟩ : ∃ m, q.length = m := ⟨_, rfl⟩
  have HM := hid hm
  rw [hm] at C0 HQL
  have hm10 : m ≤ 3 := HQL.out
  have HSZ : Hid (∀ p ∈ q, p.size ≤ 1000000) := fun p hp => by have := HQS.out p hp; omega
  have K1 := hid (fun W => cutC_any s1 14 W h1 (by omega))
  have hz1 := cutM_size 14 s1
  obtain ⟨t, ht⟩ : ∃ t, cutM 14 s1 = t := ⟨_, rfl⟩
  rw [ht] at K1 hz1
  have HTS := hid (size_list t)
  have K2 := hid (fun W => cutC_any t win W (by omega) (by omega))
  have HCL := hid (cutM_list win t)
  have hz2 := cutM_size win t
  obtain ⟨u, hu⟩ : ∃ u, cutM win t = u := ⟨_, rfl⟩
  rw [hu] at K2 HCL hz2
  have CN := hid (fun W => hoNew_any (win : Int) W (by omega) (by omega))
  rw [show clampN (win : Int) 4096 = win from by rw [clampN, if_neg (by omega), if_neg (by omega)]; omega] at CN
  have CR := hid (fun W => rgNew_any 32 W (by omega) (by omega))
  rw [show clampN 32 4096 = 32 from rfl] at CR
  have CLV := hid (fun W => lives19_any W)
  clear hq hm hl hs hr h1 ht hu
  obtain ⟨Q, hQ⟩ : ∃ Q : Ending → World → Prop, (fun e w' => e = .returned (.bool true) ∧ Below w.heap.size w w') = Q := ⟨_, rfl⟩
  have HQ : Hid (∀ W, Below w.heap.size w W → Q (.returned (.bool true)) W) := fun W h => by rw [← hQ]; exact ⟨rfl, h⟩
  rw [show (fun e w' => e = Ending.returned (.bool true) ∧ Below w.heap.size w w') = Q from hQ]
  clear hQ
  go_enter Try.func7, Try.ntmps7
  go_wp2_with fail
  refine C0.out.mono ?_
  rintro en w1 ⟨A1, c1, rfl, hown1, hb1⟩
  have HO1 := hid hown1; have HB1 := hid hb1
  clear C0 hown1 hb1
  go_wp2_with fail
  refine (K1.out _).mono ?_
  rintro en w1' ⟨rfl, rfl⟩
  clear K1
  go_wp2_with fail
  refine (CN.out _).mono ?_
  rintro en w2 ⟨rfl, hh2, hb2⟩
  have HH2 := hid hh2
  have HO2 := hid (own_below HO1.out hb2)
  have HB2 := hid (HB1.out.trans (hb2.mono HB1.out.size))
  have hlt2 := hh2.lt
  have hsz1 := HB1.out.size
  obtain ⟨h, hhe⟩ : ∃ h, w1.heap.size = h := ⟨_, rfl⟩
  have HE := hid hhe
  rw [hhe] at HH2 hlt2 ⊢
  have CR2 := hid (CR.out w2)
  clear CN hh2 hb2 HO1 HB1 CR hhe
  go_wp2_with fail
  refine CR2.out.mono ?_
  rintro en w3 ⟨g, gb, rfl, hr3, hg1, hg2, hb3⟩
  have HR3 := hid hr3
  have HH3 := hid (HH2.out.below hb3)
  have HO3 := hid (own_below HO2.out hb3)
  have HB3 := hid (HB2.out.trans (hb3.mono HB2.out.size))
  have hgl := hr3.lt
  have hlt3 := HH3.out.lt
  have hwh : w.heap.size ≤ h := by have := HE.out; omega
  have FT3 : Hid (Foot w.heap.size (fun k => k = h) w3 g gb) := ⟨fun k hk => by omega, fun k hk => by omega, fun k hk e => by rcases e with e | e <;> omega, hgl.1, hgl.2, by omega, by omega, HB3.out.size⟩
  clear CR2 hr3 hb3 HH2 HO2 HB2 hlt2
  -- the reference's patterns
  have C3 := hid (newF_any A1 m c1 q w3 HM.out (by omega) HSZ.out (Rd_of_own HO3.out))
  have HERR := hid (newM_err' q)
  have HGD := hid (newM_good q)
  have HFEW := hid (newM_few q)
  have CBG := hid (fun F S0 ps0 P0 A' c' W (a1 : HoldAt h F W h win S0 0 ps0 P0) a2 a3 a4 => hoBegin_any h h win 0 F S0 ps0 P0 A' m c' q W a1 HM.out (by omega) HSZ.out a2 a3 a4)
  obtain ⟨⟨ls, i, e⟩, hR⟩ : ∃ R, newM q = R := ⟨_, rfl⟩
  rw [hR] at C3 HERR HGD HFEW CBG
  simp only at HERR HGD HFEW CBG
  clear hR
  go_wp2_with fail
  refine C3.out.mono ?_
  rintro en w4 ⟨AL, cl, vs, rfl, hownL, hls, hb4⟩
  simp only at hownL hls
  obtain ⟨nl, hnl⟩ : ∃ x, ls.length = x := ⟨_, rfl⟩
  have HNL := hid hnl
  simp only [hnl]
  rw [hnl] at hownL HFEW
  have hnl8 : nl ≤ 8 := HFEW.out
  have HOL := hid hownL; have HLS := hid hls
  have hbw4 : w3.heap.size ≤ w4.heap.size := hb4.size
  obtain ⟨G, hG⟩ : ∃ G : Nat → Prop, (fun k => k < w3.heap.size ∨ w4.heap.size ≤ k) = G := ⟨_, rfl⟩
  have HG : Hid (∀ k, G k ↔ (k < w3.heap.size ∨ w4.heap.size ≤ k)) := fun k => by rw [← hG]
  have HFIN : Hid (∀ W, Keep G w4 W → W.ownsRow w3.heap.size 102 1 (.slice AL nl cl) nl vs ∧ Lists w3.heap.size W ls vs) := fun W hk => by
    rw [← hG] at hk
    exact ⟨own_keepG HOL.out hk, HLS.out.keepG hk⟩
  have hgl4 : g < w3.heap.size ∧ gb < w3.heap.size := hgl
  have hlt4 : h < w3.heap.size := hlt3
  clear hG
  have HH4 := hid (HH3.out.below hb4)
  have HR4 := hid (HR3.out.below hb4)
  have HO4 := hid (own_below HO3.out hb4)
  have HB4 := hid (HB3.out.trans (hb4.mono HB3.out.size))
  have FT4 := hid (FT3.out.step hb4.size)
  have C5 := hid (fewT_any A1 m c1 q 3 8 w4 HM.out (Rd_of_own HO4.out) (fun p hp => by have := HQS.out p hp; omega) (by omega) (by omega))
  rw [HTW.out, HM.out] at C5
  have hw3s : w3.heap.size ≤ w4.heap.size := hb4.size
  clear C3 hownL hls hb4 HH3 HR3 HO3 HB3 FT3 hnl
  go_wp2_with fail
  refine C5.out.mono ?_
  rintro en w5 ⟨A5, c5, rfl, hown5, hb5⟩
  have HH5 := hid (HH4.out.below hb5)
  have HR5 := hid (HR4.out.below hb5)
  have HB5 := hid (HB4.out.trans (hb5.mono HB4.out.size))
  have FT5 := hid (FT4.out.step hb5.size)
  have HK5 : Hid (Keep G w4 w5) := Keep.of_below hb5
  have hw45 : w4.heap.size ≤ w5.heap.size := hb5.size
  have hA5 : A5 = none → m = 0 ∧ c5 = 0 := by
    intro hn
    subst hn
    rcases hown5.2 with ⟨hv, h0⟩ | ⟨g', cap, cur, hv, _⟩
    · injection hv with _ _ e3; exact ⟨h0, e3⟩
    · cases hv
  have C6 := hid (CBG.out (fun k => k = h) [] [] none A5 c5 w5 HH5.out (Rd_of_own hown5) hA5 (by have := FT5.out.2.2.2.2.2.2.2; have := HH5.out.lt; omega))
  clear C5 hown5 hb5 HH4 HR4 HB4 FT4 hA5 CBG HO4
  go_wp2_with fail
  refine C6.out.mono ?_
  rintro en w6 ⟨rfl, -, hd1, hd2⟩
  have HD1 := hid hd1
  have HB6 : Hid (Below w.heap.size w w6) := HB5.out.trans (FT5.out.belowF hd2)
  have HR6 : Hid (Rg w6 g gb 32 []) := FT5.out.ring hd2 HR5.out
  have FT6 := hid (FT5.out.up hd2.size)
  have HK6 : Hid (Keep G w4 w6) := HK5.out.trans (hd2.mono (fun k _ hk => (HG.out k).2 (.inl (by omega)))) (fun _ => .inl)
  obtain ⟨F6, hF6⟩ : ∃ F, Fup (fun k => k = h) w5 w6 = F := ⟨_, rfl⟩
  have HF6 : Hid (∀ k, F6 k → k = h ∨ w5.heap.size ≤ k) := fun k hk => by
    rw [← hF6] at hk
    rcases hk with hk | hk
    · exact .inl hk
    · exact .inr hk.1
  rw [hF6] at HD1 FT6
  clear C6 hd1 hd2 HH5 HR5 HB5 FT5 HK5 hF6
  by_cases he : e = 0
  · subst he
    have HH6 := hid (HD1.out rfl)
    have C7 := hid (rgPut_any w6 g gb 32 [] t HR6.out (by omega))
    have HT7 : Hid (([] : List UInt8) ++ t.data.toList.take (min t.size (32 - ([] : List UInt8).length)) = t.data.toList) := by
      rw [Hid, List.nil_append]; exact List.take_of_length_le (by rw [HTS.out]; simp; omega)
    clear HERR HD1
    go_wp2_with fail
    refine C7.out.mono ?_
    rintro en w7 ⟨rfl, hr7, hk7⟩
    rw [HT7.out] at hr7
    have HR7 := hid hr7
    have HH7 := hid (FT6.out.hold hk7 HH6.out)
    have HB7 : Hid (Below w.heap.size w w7) := HB6.out.trans (FT6.out.belowR hk7)
    have FT7 := hid (FT6.out.step hk7.size)
    have HK7 : Hid (Keep G w4 w7) := HK6.out.trans (hk7.mono (fun k _ hk => (HG.out k).2 (.inl (by rcases hk with e | e <;> omega)))) (fun _ => .inl)
    clear C7 HT7 hr7 hk7 HR6 HH6 HB6 FT6 HK6
    have C8 := hid (hoLook_any h h win 0 g gb 32 F6 [] t.data.toList q (some ls) w7 HH7.out HR7.out FT7.out.2.2.1 FT7.out.1 (by have := FT7.out.2.2.2.2.2.2.2; have := HH7.out.lt; omega))
    rw [show (some ls).getD [] = ls from rfl] at C8
    have PF := look_finds win ls t.data.toList
    have PK := look_keeps win ls t.data.toList
    have PB := look_bounds win ls t.data.toList
    have C10 := hid (fun W (hW : Keep G w4 W) => findR10_any w3.heap.size AL nl cl vs ls u W HNL.out hnl8 (Rd_of_own (HFIN.out W hW).1) (HFIN.out W hW).2 (by omega) (fun l hl => (HGD.out l hl).2.2))
    rw [HCL.out] at C10
    obtain ⟨⟨XS, Xs, XR, mt, fl, k, gn, rd⟩, hX⟩ : ∃ X, lookM win ls [] 0 t.data.toList = X := ⟨_, rfl⟩
    obtain ⟨⟨fk, fn, fo⟩, hFD⟩ : ∃ X, findM ls (t.data.toList.take win) = X := ⟨_, rfl⟩
    rw [hX] at C8 PF PK PB
    have HFL := findM_le ls (t.data.toList.take win)
    rw [hFD] at PF C10 HFL
    simp only at C8 PF PK PB C10 HFL
    obtain ⟨rfl, rfl, rfl, hfl⟩ := PF
    rw [HTS.out] at hfl PB
    have HPK1 := hid PK.1
    have hrd := PK.2
    have HADD := hid (str_add XS XR t gn PK.1)
    have hgnl : gn ≤ t.size := by have := HFL; rw [List.length_take, HTS.out] at this; omega
    obtain ⟨nS, hnS⟩ : ∃ x, XS.length = x := ⟨_, rfl⟩
    rw [hnS] at hrd
    have HRD2 : Hid ((rd : Int) = (gn : Int) + (nS : Int)) := by rw [Hid]; omega
    have HFLX := hid hfl
    have hb4 : nS ≤ 16 := by omega
    have hgn : gn ≤ 14 := by omega
    have HXRL : Hid (XR.length ≤ 32) := by have := PB.2; rw [Hid]; omega
    clear hX hFD PK PB hfl hrd HFL
    go_wp2_with fail
    refine C8.out.mono ?_
    rintro en w8 ⟨rfl, hh8, hr8, hk8⟩
    have HH8 := hid hh8; have HR8 := hid hr8
    have HB8 : Hid (Below w.heap.size w w8) := HB7.out.trans (FT7.out.belowB hk8)
    have HK8 : Hid (Keep G w4 w8) := HK7.out.trans (hk8.mono (fun k _ hk => (HG.out k).2 (by
      rcases hk with e | e | e
      · rcases HF6.out k e with e | e <;> omega
      · omega
      · omega))) (fun _ => .inl)
    clear C8 hh8 hr8 hk8 HR7 HH7 HB7 FT7 HK7
    simp only [foundV]
    go_upto_region 10 with fail
    obtain ⟨w9, hw9⟩ : ∃ W, w8.alloc (.cells #[.bool mt, .bool fl, .int .i64 (k : Int), .int .i64 (gn : Int), .int .i64 (rd : Int)] 54) = W := ⟨_, rfl⟩
    have HW89 : Hid (Below w8.heap.size w8 w9) := by rw [← hw9]; exact (Below.refl _ _).alloc (Nat.le_refl _) _
    have HF9 : Hid (Blk w9 w8.heap.size 54 #[.bool mt, .bool fl, .int .i64 (k : Int), .int .i64 (gn : Int), .int .i64 (rd : Int)]) := by rw [← hw9]; exact Blk.new w8 _ _
    rw [hw9]
    clear hw9
    obtain ⟨gf, hgf⟩ : ∃ x, w8.heap.size = x := ⟨_, rfl⟩
    have HH9 := hid (HH8.out.below HW89.out); have HR9 := hid (HR8.out.below HW89.out)
    have HB9 := hid (HB8.out.trans (HW89.out.mono HB8.out.size))
    have HK9 : Hid (Keep G w4 w9) := HK8.out.trans (Keep.of_below (F := G) HW89.out) (fun _ => .inl)
    rw [hgf] at HF9 ⊢
    clear hgf HH8 HR8 HB8 HK8 HW89
    have C11 := hid (C10.out w9 HK9.out)
    clear C10
    go_wp2_with fail
    refine (K2.out _).mono ?_
    rintro en wx ⟨rfl, rfl⟩
    clear K2
    go_wp2_with fail
    refine C11.out.mono ?_
    rintro en wt ⟨rfl, hbt⟩
    have HFT := hid (HF9.out.below hbt HF9.out.lt)
    have HHT := hid (HH9.out.below hbt); have HRT := hid (HR9.out.below hbt)
    have HBT := hid (HB9.out.trans (hbt.mono HB9.out.size))
    clear C11 hbt HF9 HH9 HR9 HB9 HK9 HFIN HOL HLS
    obtain ⟨f0, f1, f2, f3, f4⟩ := fact5 HFT.out
    have hfl' := HFT.out.lt
    have hmm : (mt != mt) = false := by simp
    have hkk : ((k : Int) != (k : Int)) = false := by simp
    have hgg : ((gn : Int) != (gn : Int)) = false := by simp
    have T0 : ∀ q : BW wt.heap.size wt, q.1.cell? ⟨gf, 3, none⟩ = some (.int .i64 (gn : Int)) := fun q => q.cellAt hfl' f3
    have T1 : ∀ q : BW wt.heap.size wt, q.1.cell? ⟨gf, 4, none⟩ = some (.int .i64 (rd : Int)) := fun q => q.cellAt hfl' f4
    have CTx := hid (fun (q : BW wt.heap.size wt) => hoText_any _ _ _ _ _ _ _ _ q.1 (HHT.out.below q.2))
    have CLn := hid (fun (q : BW wt.heap.size wt) => hoLen_any _ _ _ _ _ _ _ _ q.1 (HHT.out.below q.2))
    rw [hnS] at CLn
    have CPk : Hid (∀ q : BW wt.heap.size wt, Calls Try.prog 31 #[.pointer (some ⟨g, 0, none⟩), .int .i64 0, .int .i64 32] q.1 fun e w' => e = .returned (.string (rgT XR)) ∧ Below q.1.heap.size q.1 w') := fun q => by
      have := rgPeek_any q.1 g gb 32 XR 0 32 (HRT.out.below q.2) (by omega) (by omega)
      rwa [show peekT XR 0 32 = XR from peekT_all XR HXRL.out 32 (Nat.le_refl _)] at this
    have CLq := hid (fun (q : BW wt.heap.size wt) => CLV.out q.1)
    clear HFT HHT HRT
    obtain ⟨ts, hts⟩ : ∃ x, rgT XS = x := ⟨_, rfl⟩
    obtain ⟨tr, htr⟩ : ∃ x, rgT XR = x := ⟨_, rfl⟩
    rw [hts] at CTx HADD
    rw [htr] at CPk HADD
    have hzs1 : ((t.extract 0 gn).size : Int) ≤ 8388608 := by rw [ByteArray.size_extract]; omega
    have hzs2 : (ts.size : Int) ≤ 8388608 := by rw [← hts, rgT_size, hnS]; omega
    have hzs3 : (tr.size : Int) ≤ 8388608 := by rw [← htr, rgT_size]; have := HXRL.out; omega
    have hrun1 : ∀ W : World, (Op.stringOp .add (t.extract 0 gn) ts).run Try.prog W = .ok (.string (t.extract 0 gn ++ ts)) W := fun W => run_string_add W _ _ hzs1 hzs2
    have hrun2 : ∀ W : World, (Op.stringOp .add (t.extract 0 gn ++ ts) tr).run Try.prog W = .ok (.string t) W := fun W => by
      have := run_string_add (P := Try.prog) W (t.extract 0 gn ++ ts) tr (by rw [ByteArray.size_append, Int.natCast_add]; rw [ByteArray.size_extract, ← hts, rgT_size, hnS]; omega) hzs3
      rw [this, HADD.out]
    clear hzs1 hzs2 hzs3
    have hgnI : (gn : Int) ≤ (t.size : Int) := by omega
    clear hts htr
    cases mt
    · by_cases hlw : win < t.size
      · have e : fl = true := by rw [HFLX.out]; simp [hlw]
        subst e
        have hlw' : (win : Int) < (t.size : Int) := by omega
        have hrd2 := HRD2.out
        go_wp2_with fail
        refine wp_region_below wt.heap.size (by kernel_rfl) (by kernel_rfl) ?_
        repeat (go_big_quiet_step (first | (go_at_call 28; exact callBW2 (Nat.le_refl _) CTx.out _) | (go_at_call 32; exact callBW2 (Nat.le_refl _) CLn.out _) | (go_at_call 31; exact callBW2 (Nat.le_refl _) CPk.out _) | (go_at_call 25; exact callBW2 (Nat.le_refl _) CLq.out _)))
        refine wpQuiet_nil ?_
        intro w6' hq6
        have HB6' : Hid (Below w.heap.size w w6') := by obtain ⟨q, rfl⟩ := hq6; exact HBT.out.trans (q.2.mono HBT.out.size)
        clear hq6 T0 T1 CTx CLn CPk CLq
        go_wp2_with fail
        try go_ret
        exact HQ.out _ HB6'.out
      · have e : fl = false := by rw [HFLX.out]; simp [hlw]
        subst e
        have hlw' : ¬ (win : Int) < (t.size : Int) := by omega
        have hrd2 := HRD2.out
        go_wp2_with fail
        refine wp_region_below wt.heap.size (by kernel_rfl) (by kernel_rfl) ?_
        repeat (go_big_quiet_step (first | (go_at_call 28; exact callBW2 (Nat.le_refl _) CTx.out _) | (go_at_call 32; exact callBW2 (Nat.le_refl _) CLn.out _) | (go_at_call 31; exact callBW2 (Nat.le_refl _) CPk.out _) | (go_at_call 25; exact callBW2 (Nat.le_refl _) CLq.out _)))
        refine wpQuiet_nil ?_
        intro w6' hq6
        have HB6' : Hid (Below w.heap.size w w6') := by obtain ⟨q, rfl⟩ := hq6; exact HBT.out.trans (q.2.mono HBT.out.size)
        clear hq6 T0 T1 CTx CLn CPk CLq
        go_wp2_with fail
        try go_ret
        exact HQ.out _ HB6'.out
    · have e : fl = false := by rw [HFLX.out]; simp
      subst e
      have hrd2 := HRD2.out
      go_wp2_with fail
      refine wp_region_below wt.heap.size (by kernel_rfl) (by kernel_rfl) ?_
      repeat (go_big_quiet_step (first | (go_at_call 28; exact callBW2 (Nat.le_refl _) CTx.out _) | (go_at_call 32; exact callBW2 (Nat.le_refl _) CLn.out _) | (go_at_call 31; exact callBW2 (Nat.le_refl _) CPk.out _) | (go_at_call 25; exact callBW2 (Nat.le_refl _) CLq.out _)))
      refine wpQuiet_nil ?_
      intro w6' hq6
      have HB6' : Hid (Below w.heap.size w w6') := by obtain ⟨q, rfl⟩ := hq6; exact HBT.out.trans (q.2.mono HBT.out.size)
      clear hq6 T0 T1 CTx CLn CPk CLq
      go_wp2_with fail
      try go_ret
      exact HQ.out _ HB6'.out
  · have he0 : ((e : Int) == 0) = false := by rw [beq_eq_false_iff_ne]; omega
    have he1 : ((e : Int) != 0) = true := by rw [bne, he0]; rfl
    have he2 : ((e : Int) != (e : Int)) = false := by simp
    have LV := hid (CLV.out w6)
    clear he HD1 HERR
    go_wp2_with fail
    refine LV.out.mono ?_
    rintro en wz ⟨rfl, hbz⟩
    have HBZ := hid (HB6.out.trans (hbz.mono HB6.out.size))
    clear LV hbz
    go_wp2_with fail
    try go_ret
    exact HQ.out _ HBZ.out
end Go.Proofs.Ytokeacnanfgmbaa
namespace Go.Proofs.Ytokeacnanfgmbaa
open Go.RowKit

/-- One byte more: what is held, and what was told. -/
def feedP (ls : List (List Item)) (st : List UInt8 × List (Nat × Nat)) (c : UInt8) : List UInt8 × List (Nat × Nat) :=
  if (dsM ls (st.1 ++ [c]) (st.1.length + 1)).any id = true then ([], st.2 ++ [(toldA (dsM ls (st.1 ++ [c]) (st.1.length + 1)), st.1.length + 1)]) else (st.1 ++ [c], st.2)
def runP (ls : List (List Item)) (S : List UInt8) (o : List (Nat × Nat)) (R : List UInt8) : List UInt8 × List (Nat × Nat) := R.foldl (feedP ls) (S, o)
theorem runP_app (ls : List (List Item)) (S : List UInt8) (o : List (Nat × Nat)) (a b : List UInt8) : runP ls S o (a ++ b) = runP ls (runP ls S o a).1 (runP ls S o a).2 b := by
  unfold runP; rw [List.foldl_append]
theorem lookGo_run (win : Nat) (ls : List (List Item)) (R : List UInt8) (S : List UInt8) (N rd : Nat) (o : List (Nat × Nat)) (hw : S.length + R.length < win) (hN : R.length + 1 ≤ N) :
    ((lookGo win ls N S S.length R rd).mtch = true → (lookGo win ls N S S.length R rd).S = [] ∧ (lookGo win ls N S S.length R rd).seen = 0 ∧ (lookGo win ls N S S.length R rd).R.length < R.length ∧
      runP ls S o R = runP ls [] (o ++ [((lookGo win ls N S S.length R rd).arm, (lookGo win ls N S S.length R rd).gone)]) (lookGo win ls N S S.length R rd).R) ∧
    ((lookGo win ls N S S.length R rd).mtch = false → (lookGo win ls N S S.length R rd).R = [] ∧ (lookGo win ls N S S.length R rd).seen = (lookGo win ls N S S.length R rd).S.length ∧ (lookGo win ls N S S.length R rd).S.length = S.length + R.length ∧ runP ls S o R = ((lookGo win ls N S S.length R rd).S, o)) := by
  induction R generalizing S N rd with
  | nil =>
    obtain ⟨n, rfl⟩ : ∃ n, N = n + 1 := ⟨N - 1, by simp at hN; omega⟩
    rw [lookGo_none]
    exact ⟨fun h => Bool.noConfusion h, fun _ => ⟨rfl, rfl, by simp, rfl⟩⟩
  | cons c R ih =>
    obtain ⟨n, rfl⟩ : ∃ n, N = n + 1 := ⟨N - 1, by simp at hN; omega⟩
    simp only [List.length_cons] at hw hN
    rw [lookGo_new _ _ _ _ _ _ _ (by omega)]
    have hl : (S ++ [c]).length = S.length + 1 := by simp
    by_cases ha : (dsM ls (S ++ [c]) (S.length + 1)).any id = true
    · rw [if_pos ha]
      refine ⟨fun _ => ⟨rfl, rfl, by simp, ?_⟩, fun h => Bool.noConfusion h⟩
      show List.foldl (feedP ls) (S, o) (c :: R) = _
      rw [List.foldl_cons, show feedP ls (S, o) c = ([], o ++ [(toldA (dsM ls (S ++ [c]) (S.length + 1)), S.length + 1)]) from if_pos ha]
      rfl
    · rw [if_neg ha]
      have := ih (S ++ [c]) n (rd + 1) (by rw [hl]; omega) (by omega)
      rw [hl] at this
      have hr : runP ls S o (c :: R) = runP ls (S ++ [c]) o R := by
        show List.foldl (feedP ls) (S, o) (c :: R) = _
        rw [List.foldl_cons, show feedP ls (S, o) c = (S ++ [c], o) from if_neg ha]; rfl
      obtain ⟨t1, t2⟩ := this
      refine ⟨fun h => ?_, fun h => ?_⟩
      · obtain ⟨a1, a2, a3, a4⟩ := t1 h
        exact ⟨a1, a2, by simp; omega, by rw [hr]; exact a4⟩
      · obtain ⟨a1, a2, a3, a4⟩ := t2 h
        exact ⟨a1, a2, by rw [a3]; simp; omega, by rw [hr]; exact a4⟩
theorem lookM_run (win : Nat) (ls : List (List Item)) (S R : List UInt8) (o : List (Nat × Nat)) (hw : S.length + R.length < win) :
    ((lookM win ls S S.length R).mtch = true → (lookM win ls S S.length R).S = [] ∧ (lookM win ls S S.length R).seen = 0 ∧ (lookM win ls S S.length R).R.length < R.length ∧
      runP ls S o R = runP ls [] (o ++ [((lookM win ls S S.length R).arm, (lookM win ls S S.length R).gone)]) (lookM win ls S S.length R).R) ∧
    ((lookM win ls S S.length R).mtch = false → (lookM win ls S S.length R).R = [] ∧ (lookM win ls S S.length R).seen = (lookM win ls S S.length R).S.length ∧ (lookM win ls S S.length R).S.length = S.length + R.length ∧ runP ls S o R = ((lookM win ls S S.length R).S, o)) :=
  lookGo_run win ls R S (lookN S S.length R) 0 o hw (by unfold lookN; omega)
def pairCells (l : List (Nat × Nat)) : List Value := l.flatMap fun x => [.int .i64 (x.1 : Int), .int .i64 (x.2 : Int)]
theorem pairCells_app (a b : List (Nat × Nat)) : pairCells (a ++ b) = pairCells a ++ pairCells b := by simp [pairCells]
theorem pairCells_length (l : List (Nat × Nat)) : (pairCells l).length = l.length * 2 := by
  induction l with
  | nil => rfl
  | cons x l ih => simp only [pairCells, List.flatMap_cons, List.length_append, List.length_cons, List.length_nil] at *; omega
theorem pairCells_get (l : List (Nat × Nat)) (k : Nat) (h : k < l.length) : (pairCells l)[k * 2]? = some (.int .i64 ((l[k]).1 : Int)) ∧ (pairCells l)[k * 2 + 1]? = some (.int .i64 ((l[k]).2 : Int)) := by
  induction l generalizing k with
  | nil => simp at h
  | cons x l ih =>
    have e : pairCells (x :: l) = [.int .i64 (x.1 : Int), .int .i64 (x.2 : Int)] ++ pairCells l := rfl
    cases k with
    | zero => exact ⟨rfl, rfl⟩
    | succ k =>
      have := ih k (by simpa using h)
      rw [e, List.getElem?_append_right (by simp; omega), List.getElem?_append_right (by simp; omega)]
      rw [show (k + 1) * 2 - [Value.int .i64 (x.1 : Int), Value.int .i64 (x.2 : Int)].length = k * 2 from by simp; omega, show (k + 1) * 2 + 1 - [Value.int .i64 (x.1 : Int), Value.int .i64 (x.2 : Int)].length = k * 2 + 1 from by simp; omega]
      simpa using this
end Go.Proofs.Ytokeacnanfgmbaa
namespace Go.Proofs.Ytokeacnanfgmbaa
open Go.RowKit PopT

/-- A window of 64 and its ring, all of whose bytes were looked at; the blocks are within O. -/
def HR (B : Nat) (O : Nat → Prop) (w : World) (h g gb : Nat) (ps : List ByteArray) (ls : List (List Item)) (S R : List UInt8) : Prop :=
  (∃ b0 F, b0 ≤ w.heap.size ∧ HoldAt b0 F w h 64 S S.length ps (some ls) ∧ Rg w g gb 64 R ∧ Foot B F w g gb ∧ (∀ k, F k → O k) ∧ O g ∧ O gb) ∧ ∀ k, O k → B ≤ k ∧ k < w.heap.size
theorem HR.keep {B h g gb : Nat} {O G : Nat → Prop} {w w' : World} {ps : List ByteArray} {ls : List (List Item)} {S R : List UInt8} (H : HR B O w h g gb ps ls S R) (hk : Keep G w w') (hd : ∀ k, O k → ¬ G k) : HR B O w' h g gb ps ls S R := by
  obtain ⟨⟨b0, F, h0, h1, h2, h3, h4, h5, h6⟩, h7⟩ := H
  exact ⟨⟨b0, F, Nat.le_trans h0 hk.size, h1.keep hk (fun k hf => hd k (h4 k hf)), h2.keep hk (hd _ h5) (hd _ h6), h3.step hk.size, h4, h5, h6⟩, fun k hk' => ⟨(h7 k hk').1, Nat.lt_of_lt_of_le (h7 k hk').2 hk.size⟩⟩
theorem HR.below {B h g gb : Nat} {O : Nat → Prop} {w w' : World} {ps : List ByteArray} {ls : List (List Item)} {S R : List UInt8} (H : HR B O w h g gb ps ls S R) (hb : Below w.heap.size w w') : HR B O w' h g gb ps ls S R :=
  H.keep (G := fun _ => False) (Keep.of_below hb) (fun _ _ h => h)
theorem HR.lt {B h g gb : Nat} {O : Nat → Prop} {w : World} {ps : List ByteArray} {ls : List (List Item)} {S R : List UInt8} (H : HR B O w h g gb ps ls S R) (k : Nat) (hk : O k) : B ≤ k ∧ k < w.heap.size := H.2 k hk
theorem HR.win {B h g gb : Nat} {O : Nat → Prop} {w : World} {ps : List ByteArray} {ls : List (List Item)} {S R : List UInt8} (H : HR B O w h g gb ps ls S R) : S.length ≤ 64 := by
  obtain ⟨⟨b0, F, -, h1, -⟩, -⟩ := H; exact h1.2.2.2.2.2.1
theorem HR.mk {B b0 h g gb : Nat} {F : Nat → Prop} {w : World} {ps : List ByteArray} {ls : List (List Item)} {S R : List UInt8} (h0 : b0 ≤ w.heap.size) (h1 : HoldAt b0 F w h 64 S S.length ps (some ls)) (h2 : Rg w g gb 64 R) (h3 : Foot B F w g gb) : HR B (fun k => F k ∨ RgF g gb k) w h g gb ps ls S R := by
  refine ⟨⟨b0, F, h0, h1, h2, h3, fun k hk => .inl hk, .inr (.inl rfl), .inr (.inr rfl)⟩, fun k hk => ?_⟩
  obtain ⟨a1, a2, a3, a4, a5, a6, a7, a8⟩ := h3
  rcases hk with hk | hk | hk
  · exact ⟨a2 k hk, a1 k hk⟩
  · omega
  · omega

theorem hrLook_any (B h g gb : Nat) (O : Nat → Prop) (ps : List ByteArray) (ls : List (List Item)) (S R : List UInt8) (w : World) (H : HR B O w h g gb ps ls S R) (hw : S.length + R.length < 64) :
    Calls Try.prog 27 #[.pointer (some ⟨h, 0, none⟩), .pointer (some ⟨g, 0, none⟩)] w fun e w' =>
      ∃ (mt fl : Bool) (k gn rd : Nat) (S' R' : List UInt8), e = .returned (foundV mt fl k gn rd) ∧ HR B (Fup O w w') w' h g gb ps ls S' R' ∧ Keep O w w' ∧ S'.length + R'.length ≤ S.length + R.length ∧
        (mt = true → R'.length < R.length ∧ ∀ o, runP ls S o R = runP ls S' (o ++ [(k, gn)]) R') ∧ (mt = false → R' = [] ∧ ∀ o, runP ls S o R = (S', o)) := by
  obtain ⟨⟨b0, F, h0, h1, h2, h3, h4, h5, h6⟩, h7⟩ := H
  refine (hoLook_any b0 h 64 S.length g gb 64 F S R ps (some ls) w h1 h2 h3.2.2.1 h3.1 h0).mono ?_
  rintro e w' ⟨rfl, hh, hr, hk⟩
  rw [show (some ls).getD [] = ls from rfl] at hh hr ⊢
  have HL := fun o => lookM_run 64 ls S R o hw
  obtain ⟨⟨XS, Xs, XR, mt, fl, k, gn, rd⟩, hX⟩ : ∃ X, lookM 64 ls S S.length R = X := ⟨_, rfl⟩
  simp only [hX] at HL hh hr ⊢
  have hseen : Xs = XS.length := by
    cases mt
    · exact ((HL []).2 rfl).2.1
    · obtain ⟨a, b, -⟩ := (HL []).1 rfl
      rw [a, b]; rfl
  subst hseen
  have hkO : Keep O w w' := hk.mono (fun k _ h => by
    rcases h with h | h | h
    · exact h4 k h
    · subst h; exact h5
    · subst h; exact h6)
  refine ⟨mt, fl, k, gn, rd, XS, XR, rfl, ⟨⟨b0, Fup F w w', Nat.le_trans h0 hk.size, hh, hr, h3.up hk.size, fun k hf => hf.imp (h4 k) id, .inl h5, .inl h6⟩, fun k hk' => ?_⟩, hkO, ?_, fun hm => ?_, fun hm => ?_⟩
  · obtain ⟨a1, a2, a3, a4, a5, a6, a7, a8⟩ := h3
    rcases hk' with e | e
    · exact ⟨(h7 k e).1, Nat.lt_of_lt_of_le (h7 k e).2 hk.size⟩
    · exact ⟨by omega, e.2⟩
  · cases mt
    · obtain ⟨a, b, c, -⟩ := (HL []).2 rfl
      rw [a, c]; exact Nat.le_refl _
    · obtain ⟨a, b, c, -⟩ := (HL []).1 rfl
      rw [a]; simp; omega
  · obtain ⟨a, b, c, -⟩ := (HL []).1 hm
    refine ⟨c, fun o => ?_⟩
    rw [a]; exact ((HL o).1 hm).2.2.2
  · obtain ⟨a, b, c, -⟩ := (HL []).2 hm
    exact ⟨a, fun o => ((HL o).2 hm).2.2.2⟩

theorem hrPut_any (B h g gb : Nat) (O : Nat → Prop) (ps : List ByteArray) (ls : List (List Item)) (S R : List UInt8) (s : ByteArray) (w : World) (H : HR B O w h g gb ps ls S R) (hs : R.length + s.size ≤ 64) :
    Calls Try.prog 26 #[.pointer (some ⟨g, 0, none⟩), .string s] w fun e w' => ∃ n : Nat, e = .returned (.int .i64 (n : Int)) ∧ HR B O w' h g gb ps ls S (R ++ s.data.toList) ∧ Keep O w w' := by
  obtain ⟨⟨b0, F, h0, h1, h2, h3, h4, h5, h6⟩, h7⟩ := H
  refine (rgPut_any w g gb 64 R s h2 (by omega)).mono ?_
  rintro e w' ⟨rfl, hr, hk⟩
  rw [List.take_of_length_le (by simp; omega)] at hr
  refine ⟨_, rfl, ⟨⟨b0, F, Nat.le_trans h0 hk.size, h3.hold hk h1, hr, h3.step hk.size, h4, h5, h6⟩, fun k hk' => ⟨(h7 k hk').1, Nat.lt_of_lt_of_le (h7 k hk').2 hk.size⟩⟩, hk.mono (fun k _ h => ?_)⟩
  rcases h with h | h
  · subst h; exact h5
  · subst h; exact h6

theorem hrText_any (B h g gb : Nat) (O : Nat → Prop) (ps : List ByteArray) (ls : List (List Item)) (S R : List UInt8) (w : World) (H : HR B O w h g gb ps ls S R) :
    Calls Try.prog 28 #[.pointer (some ⟨h, 0, none⟩)] w fun e w' => e = .returned (.string (rgT S)) ∧ Below w.heap.size w w' := by
  obtain ⟨⟨b0, F, h0, h1, h2, h3, h4, h5, h6⟩, h7⟩ := H
  exact hoText_any b0 h 64 S.length F S ps (some ls) w h1

/-- Two windows with their rings, and two lists of pairs; all lie apart from each other. -/
def Alike (B h g gb k g2 gb2 : Nat) (q : List ByteArray) (ls : List (List Item)) (w : World) (va vb : Value) (p1 p2 : List (Nat × Nat)) (S1 R1 S2 R2 : List UInt8) : Prop :=
  ∃ O1 O2, HR B O1 w h g gb q ls S1 R1 ∧ HR B O2 w k g2 gb2 q ls S2 R2 ∧ (∀ x, O1 x → ¬ O2 x) ∧ w.ownsRow B 56 2 va p1.length (pairCells p1) ∧ w.ownsRow B 56 2 vb p2.length (pairCells p2) ∧
    (∀ x, va.ownBlock = some x → ¬ O1 x ∧ ¬ O2 x ∧ vb.ownBlock ≠ some x) ∧ (∀ x, vb.ownBlock = some x → ¬ O1 x ∧ ¬ O2 x ∧ va.ownBlock ≠ some x)
section
variable {B h g gb k g2 gb2 : Nat} {q : List ByteArray} {ls : List (List Item)} {w w' : World} {va vb : Value} {p1 p2 : List (Nat × Nat)} {S1 R1 S2 R2 : List UInt8}
theorem Alike.below (H : Alike B h g gb k g2 gb2 q ls w va vb p1 p2 S1 R1 S2 R2) (hb : Below w.heap.size w w') : Alike B h g gb k g2 gb2 q ls w' va vb p1 p2 S1 R1 S2 R2 := by
  obtain ⟨O1, O2, h1, h2, h3, h4, h5, h6, h7⟩ := H
  exact ⟨O1, O2, h1.below hb, h2.below hb, h3, own_below h4 hb, own_below h5 hb, h6, h7⟩
theorem Alike.swap (H : Alike B h g gb k g2 gb2 q ls w va vb p1 p2 S1 R1 S2 R2) : Alike B k g2 gb2 h g gb q ls w vb va p2 p1 S2 R2 S1 R1 := by
  obtain ⟨O1, O2, h1, h2, h3, h4, h5, h6, h7⟩ := H
  exact ⟨O2, O1, h2, h1, fun x a b => h3 x b a, h5, h4, fun x hx => ⟨(h7 x hx).2.1, (h7 x hx).1, (h7 x hx).2.2⟩, fun x hx => ⟨(h6 x hx).2.1, (h6 x hx).1, (h6 x hx).2.2⟩⟩
theorem Alike.size (H : Alike B h g gb k g2 gb2 q ls w va vb p1 p2 S1 R1 S2 R2) : B ≤ w.heap.size := by
  obtain ⟨O1, O2, ⟨⟨b0, F, h0, h1, h2, h3, h4⟩, h7⟩, -⟩ := H
  exact h3.2.2.2.2.2.2.2
theorem alLook (H : Alike B h g gb k g2 gb2 q ls w va vb p1 p2 S1 R1 S2 R2) (hw : S1.length + R1.length < 64) :
    Calls Try.prog 27 #[.pointer (some ⟨h, 0, none⟩), .pointer (some ⟨g, 0, none⟩)] w fun e w' =>
      ∃ (mt fl : Bool) (kk gn rd : Nat) (S' R' : List UInt8), e = .returned (foundV mt fl kk gn rd) ∧ Alike B h g gb k g2 gb2 q ls w' va vb p1 p2 S' R' S2 R2 ∧ Below B w w' ∧ S'.length + R'.length ≤ S1.length + R1.length ∧
        (mt = true → R'.length < R1.length ∧ ∀ o, runP ls S1 o R1 = runP ls S' (o ++ [(kk, gn)]) R') ∧ (mt = false → R' = [] ∧ ∀ o, runP ls S1 o R1 = (S', o)) := by
  have hB := H.size
  obtain ⟨O1, O2, h1, h2, h3, h4, h5, h6, h7⟩ := H
  refine (hrLook_any B h g gb O1 q ls S1 R1 w h1 hw).mono ?_
  rintro e w' ⟨mt, fl, kk, gn, rd, S', R', rfl, a1, a2, a3⟩
  refine ⟨mt, fl, kk, gn, rd, S', R', rfl, ⟨Fup O1 w w', O2, a1, h2.keep a2 (fun x hx hx2 => h3 x hx2 hx), fun x hx hx2 => ?_, a2.own h4 (fun x hx => (h6 x hx).1), a2.own h5 (fun x hx => (h7 x hx).1), fun x hx => ⟨?_, (h6 x hx).2.1, (h6 x hx).2.2⟩, fun x hx => ⟨?_, (h7 x hx).2.1, (h7 x hx).2.2⟩⟩, a2.below hB (fun x hx => (h1.lt x hx).1), a3⟩
  · rcases hx with hx | hx
    · exact h3 x hx hx2
    · have := (h2.lt x hx2).2; omega
  · rintro (hx2 | hx2)
    · exact (h6 x hx).1 hx2
    · have := (h4.lt x hx).2; omega
  · rintro (hx2 | hx2)
    · exact (h7 x hx).1 hx2
    · have := (h5.lt x hx).2; omega
theorem alPut (s : ByteArray) (H : Alike B h g gb k g2 gb2 q ls w va vb p1 p2 S1 R1 S2 R2) (hs : R1.length + s.size ≤ 64) :
    Calls Try.prog 26 #[.pointer (some ⟨g, 0, none⟩), .string s] w fun e w' => ∃ n : Nat, e = .returned (.int .i64 (n : Int)) ∧ Alike B h g gb k g2 gb2 q ls w' va vb p1 p2 S1 (R1 ++ s.data.toList) S2 R2 ∧ Below B w w' := by
  have hB := H.size
  obtain ⟨O1, O2, h1, h2, h3, h4, h5, h6, h7⟩ := H
  refine (hrPut_any B h g gb O1 q ls S1 R1 s w h1 hs).mono ?_
  rintro e w' ⟨n, rfl, a1, a2⟩
  exact ⟨n, rfl, ⟨O1, O2, a1, h2.keep a2 (fun x hx hx2 => h3 x hx2 hx), h3, a2.own h4 (fun x hx => (h6 x hx).1), a2.own h5 (fun x hx => (h7 x hx).1), h6, h7⟩, a2.below hB (fun x hx => (h1.lt x hx).1)⟩
theorem alText (H : Alike B h g gb k g2 gb2 q ls w va vb p1 p2 S1 R1 S2 R2) :
    Calls Try.prog 28 #[.pointer (some ⟨h, 0, none⟩)] w fun e w' => e = .returned (.string (rgT S1)) ∧ Below w.heap.size w w' := by
  obtain ⟨O1, O2, h1, -⟩ := H
  exact hrText_any B h g gb O1 q ls S1 R1 w h1
theorem Alike.app (H : Alike B h g gb k g2 gb2 q ls w va vb p1 p2 S1 R1 S2 R2) {gr c kk gn n : Nat} (hn : p1.length = n) (ho : w'.ownsRow B 56 2 (.slice (some ⟨gr, 0, none⟩) (n + 1) c) (n + 1) (pairCells p1 ++ [.int .i64 (kk : Int), .int .i64 (gn : Int)])) (hk : Keep (fun k => va.ownBlock = some k) w w') (hf : va.ownBlock = some gr ∨ w.heap.size ≤ gr) :
    Alike B h g gb k g2 gb2 q ls w' (.slice (some ⟨gr, 0, none⟩) (n + 1) c) vb (p1 ++ [(kk, gn)]) p2 S1 R1 S2 R2 ∧ Below B w w' := by
  have hB := H.size
  obtain ⟨O1, O2, h1, h2, h3, h4, h5, h6, h7⟩ := H
  have e : (p1 ++ [(kk, gn)]).length = n + 1 := by simp [hn]
  refine ⟨⟨O1, O2, h1.keep hk (fun x hx hx2 => (h6 x hx2).1 hx), h2.keep hk (fun x hx hx2 => (h6 x hx2).2.1 hx), h3, by rw [e, pairCells_app]; exact ho, hk.own h5 (fun x hx hx2 => (h7 x hx).2.2 hx2), fun x hx => ?_, fun x hx => ⟨(h7 x hx).1, (h7 x hx).2.1, fun hx2 => ?_⟩⟩, hk.below hB (fun x hx => (h4.lt x hx).1)⟩
  · have hx' : gr = x := by simpa [Value.ownBlock] using hx
    subst hx'
    rcases hf with hf | hf
    · exact h6 _ hf
    · exact ⟨fun a => by have := (h1.lt _ a).2; omega, fun a => by have := (h2.lt _ a).2; omega, fun a => by have := (h5.lt _ a).2; omega⟩
  · have hx' : gr = x := by simpa [Value.ownBlock] using hx2
    subst hx'
    rcases hf with hf | hf
    · exact (h7 _ hx).2.2 hf
    · have := (h5.lt _ hx).2; omega
end
theorem Try.infoPair : (Try.prog.info? 56).map (fun i => (i.zero, i.size, i.bytes)) = some (some (.agg #[.int .i64 0, .int .i64 0]), 2, 16) := by kernel_rfl
theorem Try.eqPair (a b : Int) (W : World) : (Op.equalIn 10000 56 (.agg #[.int .i64 a, .int .i64 b]) (.agg #[.int .i64 a, .int .i64 b])).run Try.prog W = .ok true W := by
  obtain ⟨i0, hi, hz0, hz1, hz2⟩ := info_parts Try.infoInt
  have hp : ∀ (cs : Array Value) (k : Nat) (v : Value), cs[k]? = some v → (part 3 cs k).run Try.prog W = .ok v W := by
    intro cs k v h
    simp [part, h]
  have he : ∀ a : Int, (Op.equalIn 9999 3 (.int .i64 a) (.int .i64 a)).run Try.prog W = .ok true W := by
    intro a
    have := run_equalIn_int (P := Try.prog) W 9998 3 .i64 .i64 a a Try.underlying3
    rw [show (9999 : Nat) = 9998 + 1 from rfl, this]; simp
  rw [show (10000 : Nat) = 9999 + 1 from rfl, run_equalIn_array W 9999 _ _ Try.underlying56 hi]
  have a0 := hp #[.int .i64 a, .int .i64 b] (0 * 1) (.int .i64 a) rfl
  have a1 := hp #[.int .i64 a, .int .i64 b] (1 * 1) (.int .i64 b) rfl
  have e0 := he a
  have e1 := he b
  clear hp he
  simp only [show List.range 2 = [0, 1] from rfl, Op.eqItems, Sem.run_bind, show Try.prog.cellsOf 3 = 1 from by kernel_rfl, a0, e0, Result.andThen_ok]
  simp only [Bool.not_true, Bool.false_eq_true, if_false, Sem.run_bind, a1, e1, Result.andThen_ok]
  rfl
end Go.Proofs.Ytokeacnanfgmbaa
namespace Go.Proofs.Ytokeacnanfgmbaa
open Go.RowKit PopT

theorem slice_none {base e size n c : Nat} {w : World} {xs : List Value} (h : w.ownsRow base e size (.slice none n c) n xs) : n = 0 ∧ c = 0 := by
  rcases h.2 with ⟨hv, h0⟩ | ⟨g', cap, cur, hv, _⟩
  · injection hv with _ _ e3; exact ⟨h0, e3⟩
  · cases hv
/-- The rows of two windows begin. -/
theorem alike_start {B h g gb k g2 gb2 : Nat} {q : List ByteArray} {ls : List (List Item)} {w : World} {O1 O2 : Nat → Prop} {R : List UInt8} (h1 : HR B O1 w h g gb q ls [] R) (h2 : HR B O2 w k g2 gb2 q ls [] []) (h3 : ∀ x, O1 x → ¬ O2 x) (hB : B ≤ w.heap.size) :
    Alike B h g gb k g2 gb2 q ls ((w.alloc (.cells #[] 56)).alloc (.cells #[] 56)) (.slice (some ⟨w.heap.size, 0, none⟩) 0 0) (.slice (some ⟨w.heap.size + 1, 0, none⟩) 0 0) [] [] [] R [] [] ∧ Below B w ((w.alloc (.cells #[] 56)).alloc (.cells #[] 56)) := by
  have hb : Below w.heap.size w ((w.alloc (.cells #[] 56)).alloc (.cells #[] 56)) := below2' _ _ _
  have o1 : World.ownsRow (w.alloc (.cells #[] 56)) B 56 2 (.slice (some ⟨w.heap.size, 0, none⟩) 0 0) 0 [] := World.ownsRow_made (base := B) (e := 56) (size := 2) w #[] 0 hB (by simp [maxLen]) (by simp)
  have o2 : World.ownsRow ((w.alloc (.cells #[] 56)).alloc (.cells #[] 56)) B 56 2 (.slice (some ⟨w.heap.size + 1, 0, none⟩) 0 0) 0 [] := by
    have := World.ownsRow_made (base := B) (e := 56) (size := 2) (w.alloc (.cells #[] 56)) #[] 0 (by simp; omega) (by simp [maxLen]) (by simp)
    simpa using this
  refine ⟨⟨O1, O2, h1.below hb, h2.below hb, h3, own_below o1 ((Below.refl _ _).alloc (Nat.le_refl _) _), o2, fun x hx => ?_, fun x hx => ?_⟩, hb.mono hB⟩
  · have hx' : w.heap.size = x := by simpa [Value.ownBlock] using hx
    subst hx'
    exact ⟨fun a => by have := (h1.lt _ a).2; omega, fun a => by have := (h2.lt _ a).2; omega, by simp [Value.ownBlock]⟩
  · have hx' : w.heap.size + 1 = x := by simpa [Value.ownBlock] using hx
    subst hx'
    exact ⟨fun a => by have := (h1.lt _ a).2; omega, fun a => by have := (h2.lt _ a).2; omega, by simp [Value.ownBlock]⟩

def pieceM (T cl a i : Nat) : Nat := if a < T then 1 + (cl - i) else 0
theorem pair_cells {B n c i : Nat} {w : World} {A : Option Addr} {p : List (Nat × Nat)} (h : w.ownsRow B 56 2 (.slice A n c) n (pairCells p)) (hn : p.length = n) (hi : i < n) : ∃ b x y, A = some ⟨b, 0, none⟩ ∧ b < w.heap.size ∧ p[i]? = some (x, y) ∧ w.cell? ⟨b, i * 2, none⟩ = some (.int .i64 ((x : Nat) : Int)) ∧ w.cell? ⟨b, i * 2 + 1, none⟩ = some (.int .i64 ((y : Nat) : Int)) := by
  subst hn
  rcases h.2 with ⟨hv, h0⟩ | ⟨g, cap, cur, hv, hb, hg, _⟩
  · omega
  · injection hv with e1 _ _
    subst e1
    have hl := h.1
    obtain ⟨a1, a2⟩ := pairCells_get p i hi
    exact ⟨g, _, _, rfl, (h.lt g rfl).2, List.getElem?_eq_getElem hi, (h.cellAt (i * 2) (by omega)).trans a1, (h.cellAt (i * 2 + 1) (by omega)).trans a2⟩
theorem Alike.row1 {B h g gb k g2 gb2 n : Nat} {q : List ByteArray} {ls : List (List Item)} {w : World} {va vb : Value} {p1 p2 : List (Nat × Nat)} {S1 R1 S2 R2 : List UInt8} (H : Alike B h g gb k g2 gb2 q ls w va vb p1 p2 S1 R1 S2 R2) (hn : p1.length = n) : w.ownsRow B 56 2 va n (pairCells p1) := by
  obtain ⟨O1, O2, -, -, -, h4, -⟩ := H
  rw [hn] at h4; exact h4

set_option maxRecDepth 20000 in
set_option maxHeartbeats 8000000 in
theorem holdAlike_any (A : Option Addr) (n c : Nat) (A2 : Option Addr) (cl cc : Nat) (ps : List ByteArray) (s1 : ByteArray) (cu : List Nat) (w : World) (hl : ps.length = n) (hs : ∀ p ∈ ps, p.size ≤ 9223372036854775807) (hr : Rd w A (textCells ps)) (h1 : s1.size ≤ 9223372036854775807)
    (hcl : cu.length = cl) (hcn : cl ≤ 9223372036854775807) (hcr : Rd w A2 (cu.map fun x : Nat => Value.int .u8 (x : Int))) (hcs : ∀ x ∈ cu, x < 256) :
    Calls Try.prog 6 #[.slice A n c, .string s1, .slice A2 cl cc] w fun e w' => e = .returned (.bool true) ∧ Below w.heap.size w w' := by
  have HCL := hid hcl; have HCS := hid hcs; have HCR := hid hcr
  have C0 := hid (fewT_any A n c ps 3 6 w hl hr hs (by omega) (by omega))
  have HQS := hid (fewTM_size ps 3 6)
  have HQL := hid (fewTM_length ps 3 6)
  have HTW := hid (fewTM_twice ps 3 6)
  obtain ⟨q, hq⟩ : ∃ q, fewTM ps 3 6 = q := ⟨_, rfl⟩
  rw [hq] at C0 HQL HQS HTW
  obtain ⟨m, hm⟩ : ∃ m, q.length = m := ⟨_, rfl⟩
  have HM := hid hm
  rw [hm] at C0 HQL
  have hm10 : m ≤ 3 := HQL.out
  have HSZ : Hid (∀ p ∈ q, p.size ≤ 1000000) := fun p hp => by have := HQS.out p hp; omega
  have K1 := hid (fun W => cutC_any s1 24 W h1 (by omega))
  have hz1 := cutM_size 24 s1
  obtain ⟨t, ht⟩ : ∃ t, cutM 24 s1 = t := ⟨_, rfl⟩
  rw [ht] at K1 hz1
  have HTS := hid (size_list t)
  have CN := hid (fun W => hoNew_any 64 W (by omega) (by omega))
  rw [show clampN 64 4096 = 64 from rfl] at CN
  have CR := hid (fun W => rgNew_any 64 W (by omega) (by omega))
  rw [show clampN 64 4096 = 64 from rfl] at CR
  have CLV := hid (fun W => lives19_any W)
  have CBG := hid (fun h F S0 ps0 P0 A' c' W (a1 : HoldAt h F W h 64 S0 0 ps0 P0) a2 a3 a4 => hoBegin_any h h 64 0 F S0 ps0 P0 A' m c' q W a1 HM.out (by omega) HSZ.out a2 a3 a4)
  obtain ⟨⟨ls, i, e⟩, hR⟩ : ∃ R, newM q = R := ⟨_, rfl⟩
  rw [hR] at CBG
  simp only at CBG
  have CF : Hid (∀ A1 c1 W, Rd W A1 (textCells q) → Calls Try.prog 20 #[.slice A1 m c1, .int .i64 (3 : Int), .int .i64 (6 : Int)] W fun e w' => ∃ A' c', e = .returned (.slice A' m c') ∧
      w'.ownsRow W.heap.size 9 1 (.slice A' m c') m (textCells q) ∧ Below W.heap.size W w') := fun A1 c1 W hr => by
    have := fewT_any A1 m c1 q 3 6 W HM.out hr (fun p hp => by have := HQS.out p hp; omega) (by omega) (by omega)
    rw [HTW.out, HM.out] at this
    exact this
  clear hR hq hm hl hs hr h1 ht hcl hcs hcr
  obtain ⟨Q, hQ⟩ : ∃ Q : Ending → World → Prop, (fun e w' => e = .returned (.bool true) ∧ Below w.heap.size w w') = Q := ⟨_, rfl⟩
  have HQ : Hid (∀ W, Below w.heap.size w W → Q (.returned (.bool true)) W) := fun W h => by rw [← hQ]; exact ⟨rfl, h⟩
  rw [show (fun e w' => e = Ending.returned (.bool true) ∧ Below w.heap.size w w') = Q from hQ]
  clear hQ
  go_enter Try.func6, Try.ntmps6
  go_wp2_with fail
  refine C0.out.mono ?_
  rintro en w1 ⟨A1, c1, rfl, hown1, hb1⟩
  have HO1 := hid hown1; have HB1 := hid hb1
  clear C0 hown1 hb1
  go_wp2_with fail
  refine (K1.out _).mono ?_
  rintro en w1' ⟨rfl, rfl⟩
  clear K1
  go_wp2_with fail
  refine (CN.out _).mono ?_
  rintro en w2 ⟨rfl, hh2, hb2⟩
  have HH2 := hid hh2
  have HO2 := hid (own_below HO1.out hb2)
  have HOLT : Hid (∀ x, (Value.slice A1 m c1).ownBlock = some x → x < w1.heap.size) := fun x hx => (HO1.out.lt x hx).2
  have HB2 := hid (HB1.out.trans (hb2.mono HB1.out.size))
  have hlt2 := hh2.lt
  have hsz1 := HB1.out.size
  obtain ⟨h, hhe⟩ : ∃ h, w1.heap.size = h := ⟨_, rfl⟩
  rw [hhe] at HH2 hlt2 hsz1 HOLT ⊢
  clear hh2 hb2 HO1 HB1 hhe
  go_wp2_with fail
  refine (CN.out _).mono ?_
  rintro en w3 ⟨rfl, hk3, hb3⟩
  have HK3 := hid hk3
  have HH3 := hid (HH2.out.below hb3)
  have HO3 := hid (own_below HO2.out hb3)
  have HB3 := hid (HB2.out.trans (hb3.mono HB2.out.size))
  have hlt3 := hk3.lt
  obtain ⟨k, hke⟩ : ∃ k, w2.heap.size = k := ⟨_, rfl⟩
  rw [hke] at HK3 hlt3 hlt2 ⊢
  clear hk3 hb3 HH2 HO2 HB2 CN hke
  go_wp2_with fail
  refine (CR.out w3).mono ?_
  rintro en w4 ⟨g, gb, rfl, hr4, hg1, hg2, hb4⟩
  have HR4 := hid hr4
  have HH4 := hid (HH3.out.below hb4)
  have HK4 := hid (HK3.out.below hb4)
  have HO4 := hid (own_below HO3.out hb4)
  have HB4 := hid (HB3.out.trans (hb4.mono HB3.out.size))
  have hgl := hr4.lt
  clear hr4 hb4 HH3 HK3 HO3 HB3
  go_wp2_with fail
  refine (CR.out w4).mono ?_
  rintro en w5 ⟨g2, gb2, rfl, hr5, hg3, hg4, hb5⟩
  have HS5 := hid hr5
  have HR5 := hid (HR4.out.below hb5)
  have HH5 := hid (HH4.out.below hb5)
  have HK5 := hid (HK4.out.below hb5)
  have HO5 := hid (own_below HO4.out hb5)
  have HB5 := hid (HB4.out.trans (hb5.mono HB4.out.size))
  have hgl2 := hr5.lt
  have hw5 := hb5.size
  have hfar : w.heap.size ≤ h ∧ h < k ∧ k < g ∧ k < gb ∧ g < g2 ∧ g < gb2 ∧ gb < g2 ∧ gb < gb2 ∧ g < w5.heap.size ∧ gb < w5.heap.size ∧ g2 < w5.heap.size ∧ gb2 < w5.heap.size := by omega
  clear hr5 hb5 HR4 HH4 HK4 HO4 HB4 CR hgl hgl2 hg1 hg2 hg3 hg4 hlt2 hlt3 hsz1
  have C6 := hid (CF.out A1 c1 w5 (Rd_of_own HO5.out))
  go_wp2_with fail
  refine C6.out.mono ?_
  rintro en w6 ⟨A6, c6, rfl, hown6, hb6⟩
  have HS6 := hid (HS5.out.below hb6)
  have HR6 := hid (HR5.out.below hb6)
  have HK6 := hid (HK5.out.below hb6)
  have HO6 := hid (own_below HO5.out hb6)
  have HB6 := hid (HB5.out.trans (hb6.mono HB5.out.size))
  have hw6 := hb6.size
  have FT6 : Hid (Foot w.heap.size (fun x => x = h) w6 g gb) := ⟨fun x hx => by omega, fun x hx => by omega, fun x hx e => by rcases e with e | e <;> omega, by omega, by omega, by omega, by omega, by omega⟩
  have C7 := hid (CBG.out h (fun x => x = h) [] [] none A6 c6 w6 (HH5.out.below hb6) (Rd_of_own hown6) (fun hn => by subst hn; exact slice_none hown6) (by omega))
  clear C6 hown6 hb6 HS5 HR5 HH5 HK5 HO5 HB5
  go_wp2_with fail
  refine C7.out.mono ?_
  rintro en w7 ⟨rfl, -, hd1, hd2⟩
  have HD7 := hid hd1
  have HKP7 := hid hd2
  have hw7 := hd2.size
  have HB7 : Hid (Below w.heap.size w w7) := HB6.out.trans (FT6.out.belowF hd2)
  clear hd1 hd2 C7 HB6
  by_cases he : e = 0
  · subst he
    have HS7 : Hid (Rg w7 g2 gb2 64 []) := HS6.out.keep HKP7.out (by omega) (by omega)
    have HK7 : Hid (HoldAt k (fun x => x = k) w7 k 64 [] 0 [] none) := HK6.out.keep HKP7.out (fun x hx => by omega)
    have HRD7 : Hid (Rd w7 A1 (textCells q)) := Rd_of_own (HKP7.out.own HO6.out (fun x hx => by have := HOLT.out x hx; omega))
    have H17 : Hid (∃ O1, HR w.heap.size O1 w7 h g gb q ls [] [] ∧ ∀ x, O1 x → x ≠ k ∧ x ≠ g2 ∧ x ≠ gb2) := by
      refine ⟨_, HR.mk (b0 := h) (by omega) (HD7.out rfl) (FT6.out.ring HKP7.out HR6.out) (FT6.out.up hw7), fun x hx => ?_⟩
      rcases hx with (hx | hx) | (hx | hx)
      · omega
      · omega
      · omega
      · omega
    have C8 := hid (CF.out A1 c1 w7 HRD7.out)
    clear HS6 HR6 HK6 HO6 FT6 HD7 HKP7 HRD7
    go_wp2_with fail
    refine C8.out.mono ?_
    rintro en w8 ⟨A8, c8, rfl, hown8, hb8⟩
    have hw8 := hb8.size
    have HS8 := hid (HS7.out.below hb8)
    have HB8 := hid (HB7.out.trans (hb8.mono HB7.out.size))
    have FT8 : Hid (Foot w.heap.size (fun x => x = k) w8 g2 gb2) := ⟨fun x hx => by omega, fun x hx => by omega, fun x hx e => by rcases e with e | e <;> omega, by omega, by omega, by omega, by omega, by omega⟩
    have C9 := hid (CBG.out k (fun x => x = k) [] [] none A8 c8 w8 (HK7.out.below hb8) (Rd_of_own hown8) (fun hn => by subst hn; exact slice_none hown8) (by omega))
    have H18 : Hid (∃ O1, HR w.heap.size O1 w8 h g gb q ls [] [] ∧ ∀ x, O1 x → x ≠ k ∧ x ≠ g2 ∧ x ≠ gb2) := by
      obtain ⟨O1, a1, a2⟩ := H17.out
      exact ⟨O1, a1.below hb8, a2⟩
    clear C8 hown8 hb8 HS7 HK7 H17 HB7 CF
    go_wp2_with fail
    refine C9.out.mono ?_
    rintro en w9 ⟨rfl, -, hd1, hd2⟩
    have hw9 := hd2.size
    have HB9 : Hid (Below w.heap.size w w9) := HB8.out.trans (FT8.out.belowF hd2)
    have H9 : Hid (∃ O1 O2, HR w.heap.size O1 w9 h g gb q ls [] [] ∧ HR w.heap.size O2 w9 k g2 gb2 q ls [] [] ∧ ∀ x, O1 x → ¬ O2 x) := by
      obtain ⟨O1, a1, a2⟩ := H18.out
      refine ⟨O1, _, a1.keep hd2 (fun x hx => (a2 x hx).1), HR.mk (b0 := k) (by omega) (hd1 (by first | trivial | rfl)) (FT8.out.ring hd2 HS8.out) (FT8.out.up hw9), fun x hx hx2 => ?_⟩
      obtain ⟨e1, e2, e3⟩ := a2 x hx
      have := (a1.lt x hx).2
      rcases hx2 with (hx2 | hx2) | (hx2 | hx2)
      · exact e1 hx2
      · omega
      · exact e2 hx2
      · exact e3 hx2
    clear C9 hd1 hd2 HS8 FT8 H18 HB8 HOLT
    obtain ⟨O1, O2, h91, h92, h93⟩ := H9.out
    have C10 := hid (hrPut_any w.heap.size h g gb O1 q ls [] [] t w9 h91 (by simp; omega))
    have H92 := hid h92; have H93 := hid h93
    have HO1 : Hid (∀ x, O1 x → w.heap.size ≤ x) := fun x hx => (h91.lt x hx).1
    clear h91 h92 h93 H9
    go_wp2_with fail
    refine C10.out.mono ?_
    rintro en w10 ⟨nn, rfl, h10, hk10⟩
    have HB10 : Hid (Below w.heap.size w w10) := HB9.out.trans (hk10.below HB9.out.size HO1.out)
    have H11 := hid (alike_start (R := t.data.toList) (by simpa using h10) (H92.out.keep hk10 (fun x hx hx2 => H93.out x hx2 hx)) H93.out HB10.out.size)
    clear C10 h10 hk10 H92 H93 HO1 HB9
    go_upto_region 7 with fail
    obtain ⟨w11, hw11⟩ : ∃ W, (w10.alloc (.cells #[] 56)).alloc (.cells #[] 56) = W := ⟨_, rfl⟩
    rw [hw11] at H11
    rw [hw11]
    have HA11 := hid H11.out.1
    have HB11 := hid (HB10.out.trans H11.out.2)
    clear hw11 H11 HB10
    obtain ⟨va, hva⟩ : ∃ x, w10.heap.size = x := ⟨_, rfl⟩
    rw [hva] at HA11 ⊢
    obtain ⟨vb, hvb⟩ : ∃ x, va + 1 = x := ⟨_, rfl⟩
    rw [hvb] at HA11 ⊢
    clear hva hvb
    obtain ⟨FS, Fp, HF⟩ : ∃ FS Fp, Hid (runP ls [] [] t.data.toList = (FS, Fp)) := ⟨_, _, rfl⟩
    have hT : (t.size : Int) ≤ 24 := by omega
    go_wp2_with fail
    go_loopw [11, 13] (fun av iv wr => ∃ (n1 ca : Nat) (Aa : Option Addr) (p1 : List (Nat × Nat)) (S1 R1 : List UInt8), iv = .int .i64 (n1 : Int) ∧ av = .slice Aa n1 ca ∧ p1.length = n1 ∧ n1 + R1.length ≤ 24 ∧ S1.length + R1.length ≤ 24 ∧ runP ls S1 p1 R1 = (FS, Fp) ∧
        Alike w.heap.size h g gb k g2 gb2 q ls wr (.slice Aa n1 ca) (.slice (some ⟨vb, 0, none⟩) 0 0) p1 [] S1 R1 [] [] ∧ Below w.heap.size w wr) (fun _ iv _ => 30 - (intOf iv).toNat)
    case atStart => exact ⟨0, 0, some ⟨va, 0, none⟩, [], [], t.data.toList, rfl, rfl, rfl, by rw [HTS.out]; omega, by rw [HTS.out]; simp; omega, HF.out, HA11.out, HB11.out⟩
    case round =>
      obtain ⟨n1, ca, Aa, p1, S1, R1, rfl, rfl, hp1, hn1, hlen, hrun, hal, hb⟩ := hrel
      have HP1 := hid hp1; have HLEN := hid hlen; have HRUN := hid hrun; have HB := hid hb; have HN1 := hid hn1
      have h24 : n1 ≤ 24 := by omega
      have hl30 : (n1 : Int) < 30 := by omega
      have hd30 : decide ((n1 : Int) < 30) = true := decide_eq_true hl30
      have CLK := hid (alLook hal (by omega))
      clear hp1 hlen hrun hal hb HA11 HB11 hn1
      go_wp2_with fail
      refine CLK.out.mono ?_
      rintro en wx ⟨mt, fl, kk, gn, rd, S', R', rfl, hal, hb, hle, hmt, hmf⟩
      have HAL := hid hal; have HBX := hid (HB.out.trans hb); have HLE := hid hle; have HMT := hid hmt; have HMF := hid hmf
      clear CLK hal hb hle hmt hmf HB
      simp only [foundV]
      go_upto_region 11 with fail
      obtain ⟨w9, hw9⟩ : ∃ W, wx.alloc (.cells #[.bool mt, .bool fl, .int .i64 (kk : Int), .int .i64 (gn : Int), .int .i64 (rd : Int)] 54) = W := ⟨_, rfl⟩
      have HW89 : Hid (Below wx.heap.size wx w9) := by rw [← hw9]; exact (Below.refl _ _).alloc (Nat.le_refl _) _
      have HF9 : Hid (Blk w9 wx.heap.size 54 #[.bool mt, .bool fl, .int .i64 (kk : Int), .int .i64 (gn : Int), .int .i64 (rd : Int)]) := by rw [← hw9]; exact Blk.new wx _ _
      rw [hw9]
      clear hw9
      obtain ⟨gf, hgf⟩ : ∃ x, wx.heap.size = x := ⟨_, rfl⟩
      have HAL9 := hid (HAL.out.below HW89.out)
      have HB9 := hid (HBX.out.trans (HW89.out.mono HBX.out.size))
      rw [hgf] at HF9 ⊢
      clear hgf HAL HBX HW89
      obtain ⟨f0, f1, f2, f3, f4⟩ := fact5 HF9.out
      have hfl' := HF9.out.lt
      cases mt
      · have HX := HMF.out rfl
        have HR' : Hid (R' = []) := HX.1
        have HE : Hid (S' = FS ∧ p1 = Fp) := by
          have := HX.2 p1
          rw [HRUN.out] at this
          injection this with e1 e2
          exact ⟨e1.symm, e2.symm⟩
        clear HX HMT HMF HRUN
        go_wp2_with fail
        obtain ⟨hS, hp⟩ := HE.out
        subst hS
        subst hp
        have hR := HR'.out
        subst hR
        clear HE HR' HLE HLEN HN1 f0 f1 f2 f3 f4 hfl' HF9
        go_loopw [12, 15, 16] (fun bv av iv wr => ∃ (n2 a cb : Nat) (Ab : Option Addr) (p2 : List (Nat × Nat)) (S2 : List UInt8) (z : Int), bv = .slice Ab n2 cb ∧ av = .int .i64 (a : Int) ∧ iv = .int .i64 z ∧ a ≤ t.size ∧ (a < t.size → ∃ i : Nat, z = (i : Int) ∧ i ≤ cl) ∧ p2.length = n2 ∧ n2 ≤ a ∧ S2.length ≤ a ∧ runP ls [] [] (t.data.toList.take a) = (S2, p2) ∧
            Alike w.heap.size h g gb k g2 gb2 q ls wr (.slice Aa n1 ca) (.slice Ab n2 cb) p1 p2 S' [] S2 [] ∧ Below w.heap.size w wr) (fun _ av iv _ => pieceM t.size cl (intOf av).toNat (intOf iv).toNat)
        case atStart => exact ⟨0, 0, 0, some ⟨vb, 0, none⟩, [], [], 0, rfl, rfl, rfl, Nat.zero_le _, fun _ => ⟨0, rfl, Nat.zero_le _⟩, rfl, Nat.le_refl _, Nat.le_refl _, rfl, HAL9.out, HB9.out⟩
        case round =>
          obtain ⟨n2, a, cb, Ab, p2, S2, z, rfl, rfl, rfl, hat, hz, hp2, hn2, hS2, hrun, hal, hb⟩ := hrel
          have HP2 := hid hp2; have HRUN := hid hrun; have HAL := hid hal; have HB := hid hb; have HN2 := hid hn2; have HS2 := hid hS2
          clear hp2 hrun hal hb hn2 hS2 HAL9 HB9
          by_cases hlt : a < t.size
          · obtain ⟨i, rfl, hi⟩ := hz hlt
            have HPUT : Hid (∀ a2 : Nat, a2 ≤ t.size → Calls Try.prog 26 #[.pointer (some ⟨g2, 0, none⟩), .string (t.extract a a2)] wr fun e w' => ∃ n : Nat, e = .returned (.int .i64 (n : Int)) ∧ Alike w.heap.size k g2 gb2 h g gb q ls w' (.slice Ab n2 cb) (.slice Aa n1 ca) p2 p1 S2 ((t.data.toList.drop a).take (a2 - a)) S' [] ∧ Below w.heap.size wr w') := fun a2 ha2 => by
              have := alPut (t.extract a a2) HAL.out.swap (by simp [ByteArray.size_extract]; omega)
              rw [extract_sub, List.nil_append] at this
              exact this
            have HGO : Hid (∀ a2 : Nat, a ≤ a2 → runP ls S2 p2 ((t.data.toList.drop a).take (a2 - a)) = runP ls [] [] (t.data.toList.take a2)) := fun a2 ha2 => by
              have h1 : runP ls [] [] (t.data.toList.take a ++ (t.data.toList.drop a).take (a2 - a)) = _ := runP_app ls [] [] _ _
              rw [HRUN.out] at h1
              rw [← h1, show t.data.toList.take a ++ (t.data.toList.drop a).take (a2 - a) = t.data.toList.take a2 from by
                rw [show t.data.toList.take a2 = t.data.toList.take (a + (a2 - a)) from by congr 1; omega, List.take_add]]
            have HCUT : Hid (∀ a2 : Nat, ((t.data.toList.drop a).take (a2 - a)).length ≤ a2 - a) := fun a2 => by rw [List.length_take]; omega
            clear hz
            by_cases hic : i < cl
            · have HK : Hid (i < cu.length) := by rw [Hid, HCL.out]; exact hic
              obtain ⟨b, off, rfl, hbl, hc⟩ := (HCR.out.below (show Below w.heap.size w wr from HB.out)).at (by rw [List.length_map, HCL.out]; omega)
              have d0 : wr.cell? ⟨b, off + i, none⟩ = some (.int .u8 ((cu[i]'HK.out : Nat) : Int)) := hc i _ (by rw [List.getElem?_map, List.getElem?_eq_getElem HK.out]; rfl)
              have hx := HCS.out _ (List.getElem_mem HK.out)
              obtain ⟨x, hxx⟩ : ∃ x, cu[i]'HK.out = x := ⟨_, rfl⟩
              rw [hxx] at d0 hx
              obtain ⟨d, hd⟩ : ∃ d : Nat, x % 8 = d := ⟨_, rfl⟩
              have hd' : (x : Int) % 8 = (d : Int) := by omega
              have hd8 : d ≤ 7 := by omega
              clear hc hxx hd
              by_cases hdn : a + d < t.size
              · have hdn' : (d : Int) < (t.size : Int) - (a : Int) := by omega
                obtain ⟨a2, ha2⟩ : ∃ x, a + d = x := ⟨_, rfl⟩
                have haa : (a : Int) + (d : Int) = (a2 : Int) := by omega
                have hle2 : a ≤ a2 ∧ a2 ≤ t.size := by omega
                have HZ : Hid (∃ i2 : Nat, i + 1 = i2 ∧ i2 ≤ cl ∧ (a2 < t.size ∨ True)) := ⟨_, rfl, by omega, .inr trivial⟩
                have HMEAS : Hid (pieceM t.size cl a2 (i + 1) < pieceM t.size cl a i) := by rw [Hid, pieceM, pieceM, if_pos hlt]; split <;> omega
                clear ha2
                have C20 := hid (HPUT.out a2 hle2.2)
                have HGO2 := hid (HGO.out a2 hle2.1)
                have HLC : Hid (((t.data.toList.drop a).take (a2 - a)).length + a ≤ a2) := by have := HCUT.out a2; rw [Hid]; omega
                obtain ⟨pc, hpc⟩ : ∃ x, (t.data.toList.drop a).take (a2 - a) = x := ⟨_, rfl⟩
                rw [hpc] at C20 HGO2 HLC
                clear HPUT HGO HCUT hpc
                go_wp2_with fail
                refine C20.out.mono ?_
                rintro en w12 ⟨nn2, rfl, hal12, hb12⟩
                have HAL12 := hid hal12
                have HB12 := hid (HB.out.trans hb12)
                clear C20 hal12 hb12 HAL HB
                obtain ⟨GS, Gp, HG⟩ : ∃ GS Gp, Hid (runP ls [] [] (t.data.toList.take a2) = (GS, Gp)) := ⟨_, _, rfl⟩
                have HGO3 : Hid (runP ls S2 p2 pc = (GS, Gp)) := HGO2.out.trans HG.out
                have h24 : a2 ≤ 24 := by omega
                clear HGO2 HRUN
                go_wp2_with fail
                go_loopw [12, 18] (fun bv jv wr => ∃ (n3 j cb3 : Nat) (Ab3 : Option Addr) (p3 : List (Nat × Nat)) (S3 R3 : List UInt8), bv = .slice Ab3 n3 cb3 ∧ jv = .int .i64 (j : Int) ∧ j + R3.length ≤ 24 ∧ p3.length = n3 ∧ n3 + R3.length ≤ a2 ∧ S3.length + R3.length ≤ a2 ∧ runP ls S3 p3 R3 = (GS, Gp) ∧
                    Alike w.heap.size k g2 gb2 h g gb q ls wr (.slice Ab3 n3 cb3) (.slice Aa n1 ca) p3 p1 S3 R3 S' [] ∧ Below w.heap.size w wr) (fun _ jv _ => 30 - (intOf jv).toNat)
                case atStart => exact ⟨n2, 0, cb, Ab, p2, S2, pc, rfl, rfl, by have := HLC.out; omega, HP2.out, by have := HLC.out; have := HN2.out; omega, by have := HLC.out; have := HS2.out; omega, HGO3.out, HAL12.out, HB12.out⟩
                case round =>
                  obtain ⟨n3, j, cb3, Ab3, p3, S3, R3, rfl, rfl, hj, hp3, hn3, hs3, hrun3, hal3, hb3⟩ := hrel
                  have HP3 := hid hp3; have HN3 := hid hn3; have HS3 := hid hs3; have HRUN3 := hid hrun3; have HB3 := hid hb3
                  have HJ := hid hj
                  have hj24 : j ≤ 24 := by omega
                  have hn24 : n3 ≤ 24 := by omega
                  have CLK := hid (alLook hal3 (by omega))
                  clear hp3 hn3 hs3 hrun3 hb3 hal3 HAL12 HB12 HGO3 HLC HP2 HN2 HS2 hj
                  go_wp2_with fail
                  refine CLK.out.mono ?_
                  rintro en wx ⟨mt, fl, kk, gn, rd, S3', R3', rfl, hal, hb, hle, hmt, hmf⟩
                  have HAL := hid hal; have HBX := hid (HB3.out.trans hb); have HLE := hid hle; have HMT := hid hmt; have HMF := hid hmf
                  clear CLK hal hb hle hmt hmf HB3
                  simp only [foundV]
                  go_upto_region 26 with fail
                  obtain ⟨w9, hw9⟩ : ∃ W, wx.alloc (.cells #[.bool mt, .bool fl, .int .i64 (kk : Int), .int .i64 (gn : Int), .int .i64 (rd : Int)] 54) = W := ⟨_, rfl⟩
                  have HW89 : Hid (Below wx.heap.size wx w9) := by rw [← hw9]; exact (Below.refl _ _).alloc (Nat.le_refl _) _
                  have HF9 : Hid (Blk w9 wx.heap.size 54 #[.bool mt, .bool fl, .int .i64 (kk : Int), .int .i64 (gn : Int), .int .i64 (rd : Int)]) := by rw [← hw9]; exact Blk.new wx _ _
                  rw [hw9]
                  clear hw9
                  obtain ⟨gf, hgf⟩ : ∃ x, wx.heap.size = x := ⟨_, rfl⟩
                  have HAL9 := hid (HAL.out.below HW89.out)
                  have HB9 := hid (HBX.out.trans (HW89.out.mono HBX.out.size))
                  rw [hgf] at HF9 ⊢
                  clear hgf HAL HBX HW89
                  obtain ⟨f0, f1, f2, f3, f4⟩ := fact5 HF9.out
                  have hfl' := HF9.out.lt
                  cases mt
                  · have HX := HMF.out rfl
                    have HE3 : Hid (R3' = [] ∧ S3' = GS ∧ p3 = Gp) := by
                      have := HX.2 p3
                      rw [HRUN3.out] at this
                      injection this with e1 e2
                      exact ⟨HX.1, e1.symm, e2.symm⟩
                    have HN3' : Hid (n3 ≤ a2) := by have := HN3.out; rw [Hid]; omega
                    have HS3' : Hid (S3'.length ≤ a2) := by have := HS3.out; have := HLE.out; rw [Hid]; omega
                    have HAL3 : Hid (Alike w.heap.size h g gb k g2 gb2 q ls w9 (.slice Aa n1 ca) (.slice Ab3 n3 cb3) p1 p3 S' [] S3' []) := by
                      have := HAL9.out.swap
                      rw [HE3.out.1] at this
                      exact this
                    have HRUN4 : Hid (runP ls [] [] (t.data.toList.take a2) = (S3', p3)) := by rw [Hid, HE3.out.2.1, HE3.out.2.2]; exact HG.out
                    clear HX HMT HMF HRUN3 HN3 HS3 HAL9 HE3 HLE HG HF9
                    go_wp2_with fail
                    go_roundw
                    case rel => exact ⟨n3, a2, cb3, Ab3, p3, S3', ((i + 1 : Nat) : Int), rfl, rfl, by go_num, hle2.2, fun _ => ⟨i + 1, rfl, by omega⟩, HP3.out, HN3'.out, HS3'.out, HRUN4.out, HAL3.out, HB9.out⟩
                    case measure =>
                      have hm := HMEAS.out
                      simp only [intOf, Int.toNat_natCast]
                      exact hm
                  · have HX := HMT.out rfl
                    have HJ2 : Hid (j + 1 + R3'.length ≤ 24) := by have := HX.1; have := HJ.out; rw [Hid]; omega
                    have HN4 : Hid (n3 + 1 + R3'.length ≤ a2) := by have := HX.1; have := HN3.out; rw [Hid]; omega
                    have HS4 : Hid (S3'.length + R3'.length ≤ a2) := by have := HLE.out; have := HS3.out; rw [Hid]; omega
                    have HRUN2 : Hid (runP ls S3' (p3 ++ [(kk, gn)]) R3' = (GS, Gp)) := by rw [Hid, ← HX.2 p3]; exact HRUN3.out
                    clear HX HMT HMF HRUN3 HLE HN3 HS3 HJ
                    have hown : w9.ownsRow w.heap.size 56 2 (.slice Ab3 n3 cb3) n3 (pairCells p3) := by
                      exact HAL9.out.row1 HP3.out
                    go_wp2_with (at_builtin; refine wpList_append1K _ rfl _ _ 52 rfl w.heap.size 56 _ 2 16 Try.underlying52 Try.infoPair rfl (by decide) _ _ _ rfl hown 1 [.int .i64 (kk : Int), .int .i64 (gn : Int)] rfl rfl rfl ?_ (by decide) HB9.out.size ?_)
                    · omega
                    intro g5 c5 w5' hown5 hk5 hf5
                    obtain ⟨hal5, hb5⟩ := HAL9.out.app HP3.out hown5 hk5 hf5
                    have HALZ := hid hal5
                    have HBZ := hid (HB9.out.trans hb5)
                    clear hown5 hk5 hf5 hal5 hb5 hown HAL9 HB9 HF9 f0 f1 f2 f3 f4 hfl'
                    go_wp2_with fail
                    go_roundw
                    case rel => exact ⟨n3 + 1, j + 1, c5, some ⟨g5, 0, none⟩, p3 ++ [(kk, gn)], S3', R3', rfl, by go_num, HJ2.out, by simp [HP3.out], HN4.out, HS4.out, HRUN2.out, HALZ.out, HBZ.out⟩
                    case measure => simp [intOf]; omega
              · have hdn' : ¬ (d : Int) < (t.size : Int) - (a : Int) := by omega
                obtain ⟨a2, ha2⟩ : ∃ x, t.size = x := ⟨_, rfl⟩
                have haa : (a : Int) + ((t.size : Int) - (a : Int)) = (a2 : Int) := by omega
                have hle2 : a ≤ a2 ∧ a2 ≤ t.size := by omega
                have HMEAS : Hid (pieceM t.size cl a2 (i + 1) < pieceM t.size cl a i) := by rw [Hid, pieceM, pieceM, if_pos hlt]; split <;> omega
                clear ha2
                have C20 := hid (HPUT.out a2 hle2.2)
                have HGO2 := hid (HGO.out a2 hle2.1)
                have HLC : Hid (((t.data.toList.drop a).take (a2 - a)).length + a ≤ a2) := by have := HCUT.out a2; rw [Hid]; omega
                obtain ⟨pc, hpc⟩ : ∃ x, (t.data.toList.drop a).take (a2 - a) = x := ⟨_, rfl⟩
                rw [hpc] at C20 HGO2 HLC
                clear HPUT HGO HCUT hpc
                go_wp2_with fail
                refine C20.out.mono ?_
                rintro en w12 ⟨nn2, rfl, hal12, hb12⟩
                have HAL12 := hid hal12
                have HB12 := hid (HB.out.trans hb12)
                clear C20 hal12 hb12 HAL HB
                obtain ⟨GS, Gp, HG⟩ : ∃ GS Gp, Hid (runP ls [] [] (t.data.toList.take a2) = (GS, Gp)) := ⟨_, _, rfl⟩
                have HGO3 : Hid (runP ls S2 p2 pc = (GS, Gp)) := HGO2.out.trans HG.out
                have h24 : a2 ≤ 24 := by omega
                clear HGO2 HRUN
                go_wp2_with fail
                go_loopw [12, 18] (fun bv jv wr => ∃ (n3 j cb3 : Nat) (Ab3 : Option Addr) (p3 : List (Nat × Nat)) (S3 R3 : List UInt8), bv = .slice Ab3 n3 cb3 ∧ jv = .int .i64 (j : Int) ∧ j + R3.length ≤ 24 ∧ p3.length = n3 ∧ n3 + R3.length ≤ a2 ∧ S3.length + R3.length ≤ a2 ∧ runP ls S3 p3 R3 = (GS, Gp) ∧
                    Alike w.heap.size k g2 gb2 h g gb q ls wr (.slice Ab3 n3 cb3) (.slice Aa n1 ca) p3 p1 S3 R3 S' [] ∧ Below w.heap.size w wr) (fun _ jv _ => 30 - (intOf jv).toNat)
                case atStart => exact ⟨n2, 0, cb, Ab, p2, S2, pc, rfl, rfl, by have := HLC.out; omega, HP2.out, by have := HLC.out; have := HN2.out; omega, by have := HLC.out; have := HS2.out; omega, HGO3.out, HAL12.out, HB12.out⟩
                case round =>
                  obtain ⟨n3, j, cb3, Ab3, p3, S3, R3, rfl, rfl, hj, hp3, hn3, hs3, hrun3, hal3, hb3⟩ := hrel
                  have HP3 := hid hp3; have HN3 := hid hn3; have HS3 := hid hs3; have HRUN3 := hid hrun3; have HB3 := hid hb3
                  have HJ := hid hj
                  have hj24 : j ≤ 24 := by omega
                  have hn24 : n3 ≤ 24 := by omega
                  have CLK := hid (alLook hal3 (by omega))
                  clear hp3 hn3 hs3 hrun3 hb3 hal3 HAL12 HB12 HGO3 HLC HP2 HN2 HS2 hj
                  go_wp2_with fail
                  refine CLK.out.mono ?_
                  rintro en wx ⟨mt, fl, kk, gn, rd, S3', R3', rfl, hal, hb, hle, hmt, hmf⟩
                  have HAL := hid hal; have HBX := hid (HB3.out.trans hb); have HLE := hid hle; have HMT := hid hmt; have HMF := hid hmf
                  clear CLK hal hb hle hmt hmf HB3
                  simp only [foundV]
                  go_upto_region 26 with fail
                  obtain ⟨w9, hw9⟩ : ∃ W, wx.alloc (.cells #[.bool mt, .bool fl, .int .i64 (kk : Int), .int .i64 (gn : Int), .int .i64 (rd : Int)] 54) = W := ⟨_, rfl⟩
                  have HW89 : Hid (Below wx.heap.size wx w9) := by rw [← hw9]; exact (Below.refl _ _).alloc (Nat.le_refl _) _
                  have HF9 : Hid (Blk w9 wx.heap.size 54 #[.bool mt, .bool fl, .int .i64 (kk : Int), .int .i64 (gn : Int), .int .i64 (rd : Int)]) := by rw [← hw9]; exact Blk.new wx _ _
                  rw [hw9]
                  clear hw9
                  obtain ⟨gf, hgf⟩ : ∃ x, wx.heap.size = x := ⟨_, rfl⟩
                  have HAL9 := hid (HAL.out.below HW89.out)
                  have HB9 := hid (HBX.out.trans (HW89.out.mono HBX.out.size))
                  rw [hgf] at HF9 ⊢
                  clear hgf HAL HBX HW89
                  obtain ⟨f0, f1, f2, f3, f4⟩ := fact5 HF9.out
                  have hfl' := HF9.out.lt
                  cases mt
                  · have HX := HMF.out rfl
                    have HE3 : Hid (R3' = [] ∧ S3' = GS ∧ p3 = Gp) := by
                      have := HX.2 p3
                      rw [HRUN3.out] at this
                      injection this with e1 e2
                      exact ⟨HX.1, e1.symm, e2.symm⟩
                    have HN3' : Hid (n3 ≤ a2) := by have := HN3.out; rw [Hid]; omega
                    have HS3' : Hid (S3'.length ≤ a2) := by have := HS3.out; have := HLE.out; rw [Hid]; omega
                    have HAL3 : Hid (Alike w.heap.size h g gb k g2 gb2 q ls w9 (.slice Aa n1 ca) (.slice Ab3 n3 cb3) p1 p3 S' [] S3' []) := by
                      have := HAL9.out.swap
                      rw [HE3.out.1] at this
                      exact this
                    have HRUN4 : Hid (runP ls [] [] (t.data.toList.take a2) = (S3', p3)) := by rw [Hid, HE3.out.2.1, HE3.out.2.2]; exact HG.out
                    clear HX HMT HMF HRUN3 HN3 HS3 HAL9 HE3 HLE HG HF9
                    go_wp2_with fail
                    go_roundw
                    case rel => exact ⟨n3, a2, cb3, Ab3, p3, S3', ((i + 1 : Nat) : Int), rfl, rfl, by go_num, hle2.2, fun _ => ⟨i + 1, rfl, by omega⟩, HP3.out, HN3'.out, HS3'.out, HRUN4.out, HAL3.out, HB9.out⟩
                    case measure =>
                      have hm := HMEAS.out
                      simp only [intOf, Int.toNat_natCast]
                      exact hm
                  · have HX := HMT.out rfl
                    have HJ2 : Hid (j + 1 + R3'.length ≤ 24) := by have := HX.1; have := HJ.out; rw [Hid]; omega
                    have HN4 : Hid (n3 + 1 + R3'.length ≤ a2) := by have := HX.1; have := HN3.out; rw [Hid]; omega
                    have HS4 : Hid (S3'.length + R3'.length ≤ a2) := by have := HLE.out; have := HS3.out; rw [Hid]; omega
                    have HRUN2 : Hid (runP ls S3' (p3 ++ [(kk, gn)]) R3' = (GS, Gp)) := by rw [Hid, ← HX.2 p3]; exact HRUN3.out
                    clear HX HMT HMF HRUN3 HLE HN3 HS3 HJ
                    have hown : w9.ownsRow w.heap.size 56 2 (.slice Ab3 n3 cb3) n3 (pairCells p3) := by
                      exact HAL9.out.row1 HP3.out
                    go_wp2_with (at_builtin; refine wpList_append1K _ rfl _ _ 52 rfl w.heap.size 56 _ 2 16 Try.underlying52 Try.infoPair rfl (by decide) _ _ _ rfl hown 1 [.int .i64 (kk : Int), .int .i64 (gn : Int)] rfl rfl rfl ?_ (by decide) HB9.out.size ?_)
                    · omega
                    intro g5 c5 w5' hown5 hk5 hf5
                    obtain ⟨hal5, hb5⟩ := HAL9.out.app HP3.out hown5 hk5 hf5
                    have HALZ := hid hal5
                    have HBZ := hid (HB9.out.trans hb5)
                    clear hown5 hk5 hf5 hal5 hb5 hown HAL9 HB9 HF9 f0 f1 f2 f3 f4 hfl'
                    go_wp2_with fail
                    go_roundw
                    case rel => exact ⟨n3 + 1, j + 1, c5, some ⟨g5, 0, none⟩, p3 ++ [(kk, gn)], S3', R3', rfl, by go_num, HJ2.out, by simp [HP3.out], HN4.out, HS4.out, HRUN2.out, HALZ.out, HBZ.out⟩
                    case measure => simp [intOf]; omega
            · obtain ⟨a2, ha2⟩ : ∃ x, t.size = x := ⟨_, rfl⟩
              have haa : (a : Int) + ((t.size : Int) - (a : Int)) = (a2 : Int) := by omega
              have hle2 : a ≤ a2 ∧ a2 ≤ t.size := by omega
              have HEND : Hid (¬ a2 < t.size) := by rw [Hid]; omega
              have HMEAS : Hid (∀ x, pieceM t.size cl a2 x < pieceM t.size cl a i) := fun x => by rw [pieceM, pieceM, if_pos hlt, if_neg HEND.out]; omega
              obtain ⟨z2, hz2⟩ : ∃ z2, IntKind.i64.wrap ((i : Int) + 1) = z2 := ⟨_, rfl⟩
              clear ha2
              have C20 := hid (HPUT.out a2 hle2.2)
              have HGO2 := hid (HGO.out a2 hle2.1)
              have HLC : Hid (((t.data.toList.drop a).take (a2 - a)).length + a ≤ a2) := by have := HCUT.out a2; rw [Hid]; omega
              obtain ⟨pc, hpc⟩ : ∃ x, (t.data.toList.drop a).take (a2 - a) = x := ⟨_, rfl⟩
              rw [hpc] at C20 HGO2 HLC
              clear HPUT HGO HCUT hpc
              go_wp2_with fail
              refine C20.out.mono ?_
              rintro en w12 ⟨nn2, rfl, hal12, hb12⟩
              have HAL12 := hid hal12
              have HB12 := hid (HB.out.trans hb12)
              clear C20 hal12 hb12 HAL HB
              obtain ⟨GS, Gp, HG⟩ : ∃ GS Gp, Hid (runP ls [] [] (t.data.toList.take a2) = (GS, Gp)) := ⟨_, _, rfl⟩
              have HGO3 : Hid (runP ls S2 p2 pc = (GS, Gp)) := HGO2.out.trans HG.out
              have h24 : a2 ≤ 24 := by omega
              clear HGO2 HRUN
              go_wp2_with fail
              go_loopw [12, 18] (fun bv jv wr => ∃ (n3 j cb3 : Nat) (Ab3 : Option Addr) (p3 : List (Nat × Nat)) (S3 R3 : List UInt8), bv = .slice Ab3 n3 cb3 ∧ jv = .int .i64 (j : Int) ∧ j + R3.length ≤ 24 ∧ p3.length = n3 ∧ n3 + R3.length ≤ a2 ∧ S3.length + R3.length ≤ a2 ∧ runP ls S3 p3 R3 = (GS, Gp) ∧
                  Alike w.heap.size k g2 gb2 h g gb q ls wr (.slice Ab3 n3 cb3) (.slice Aa n1 ca) p3 p1 S3 R3 S' [] ∧ Below w.heap.size w wr) (fun _ jv _ => 30 - (intOf jv).toNat)
              case atStart => exact ⟨n2, 0, cb, Ab, p2, S2, pc, rfl, rfl, by have := HLC.out; omega, HP2.out, by have := HLC.out; have := HN2.out; omega, by have := HLC.out; have := HS2.out; omega, HGO3.out, HAL12.out, HB12.out⟩
              case round =>
                obtain ⟨n3, j, cb3, Ab3, p3, S3, R3, rfl, rfl, hj, hp3, hn3, hs3, hrun3, hal3, hb3⟩ := hrel
                have HP3 := hid hp3; have HN3 := hid hn3; have HS3 := hid hs3; have HRUN3 := hid hrun3; have HB3 := hid hb3
                have HJ := hid hj
                have hj24 : j ≤ 24 := by omega
                have hn24 : n3 ≤ 24 := by omega
                have CLK := hid (alLook hal3 (by omega))
                clear hp3 hn3 hs3 hrun3 hb3 hal3 HAL12 HB12 HGO3 HLC HP2 HN2 HS2 hj
                go_wp2_with fail
                refine CLK.out.mono ?_
                rintro en wx ⟨mt, fl, kk, gn, rd, S3', R3', rfl, hal, hb, hle, hmt, hmf⟩
                have HAL := hid hal; have HBX := hid (HB3.out.trans hb); have HLE := hid hle; have HMT := hid hmt; have HMF := hid hmf
                clear CLK hal hb hle hmt hmf HB3
                simp only [foundV]
                go_upto_region 26 with fail
                obtain ⟨w9, hw9⟩ : ∃ W, wx.alloc (.cells #[.bool mt, .bool fl, .int .i64 (kk : Int), .int .i64 (gn : Int), .int .i64 (rd : Int)] 54) = W := ⟨_, rfl⟩
                have HW89 : Hid (Below wx.heap.size wx w9) := by rw [← hw9]; exact (Below.refl _ _).alloc (Nat.le_refl _) _
                have HF9 : Hid (Blk w9 wx.heap.size 54 #[.bool mt, .bool fl, .int .i64 (kk : Int), .int .i64 (gn : Int), .int .i64 (rd : Int)]) := by rw [← hw9]; exact Blk.new wx _ _
                rw [hw9]
                clear hw9
                obtain ⟨gf, hgf⟩ : ∃ x, wx.heap.size = x := ⟨_, rfl⟩
                have HAL9 := hid (HAL.out.below HW89.out)
                have HB9 := hid (HBX.out.trans (HW89.out.mono HBX.out.size))
                rw [hgf] at HF9 ⊢
                clear hgf HAL HBX HW89
                obtain ⟨f0, f1, f2, f3, f4⟩ := fact5 HF9.out
                have hfl' := HF9.out.lt
                cases mt
                · have HX := HMF.out rfl
                  have HE3 : Hid (R3' = [] ∧ S3' = GS ∧ p3 = Gp) := by
                    have := HX.2 p3
                    rw [HRUN3.out] at this
                    injection this with e1 e2
                    exact ⟨HX.1, e1.symm, e2.symm⟩
                  have HN3' : Hid (n3 ≤ a2) := by have := HN3.out; rw [Hid]; omega
                  have HS3' : Hid (S3'.length ≤ a2) := by have := HS3.out; have := HLE.out; rw [Hid]; omega
                  have HAL3 : Hid (Alike w.heap.size h g gb k g2 gb2 q ls w9 (.slice Aa n1 ca) (.slice Ab3 n3 cb3) p1 p3 S' [] S3' []) := by
                    have := HAL9.out.swap
                    rw [HE3.out.1] at this
                    exact this
                  have HRUN4 : Hid (runP ls [] [] (t.data.toList.take a2) = (S3', p3)) := by rw [Hid, HE3.out.2.1, HE3.out.2.2]; exact HG.out
                  clear HX HMT HMF HRUN3 HN3 HS3 HAL9 HE3 HLE HG HF9
                  go_wp2_with fail
                  go_roundw
                  case rel => exact ⟨n3, a2, cb3, Ab3, p3, S3', _, rfl, rfl, rfl, hle2.2, fun h => absurd h HEND.out, HP3.out, HN3'.out, HS3'.out, HRUN4.out, HAL3.out, HB9.out⟩
                  case measure =>
                    simp only [intOf, Int.toNat_natCast]
                    exact HMEAS.out _
                · have HX := HMT.out rfl
                  have HJ2 : Hid (j + 1 + R3'.length ≤ 24) := by have := HX.1; have := HJ.out; rw [Hid]; omega
                  have HN4 : Hid (n3 + 1 + R3'.length ≤ a2) := by have := HX.1; have := HN3.out; rw [Hid]; omega
                  have HS4 : Hid (S3'.length + R3'.length ≤ a2) := by have := HLE.out; have := HS3.out; rw [Hid]; omega
                  have HRUN2 : Hid (runP ls S3' (p3 ++ [(kk, gn)]) R3' = (GS, Gp)) := by rw [Hid, ← HX.2 p3]; exact HRUN3.out
                  clear HX HMT HMF HRUN3 HLE HN3 HS3 HJ
                  have hown : w9.ownsRow w.heap.size 56 2 (.slice Ab3 n3 cb3) n3 (pairCells p3) := by
                    exact HAL9.out.row1 HP3.out
                  go_wp2_with (at_builtin; refine wpList_append1K _ rfl _ _ 52 rfl w.heap.size 56 _ 2 16 Try.underlying52 Try.infoPair rfl (by decide) _ _ _ rfl hown 1 [.int .i64 (kk : Int), .int .i64 (gn : Int)] rfl rfl rfl ?_ (by decide) HB9.out.size ?_)
                  · omega
                  intro g5 c5 w5' hown5 hk5 hf5
                  obtain ⟨hal5, hb5⟩ := HAL9.out.app HP3.out hown5 hk5 hf5
                  have HALZ := hid hal5
                  have HBZ := hid (HB9.out.trans hb5)
                  clear hown5 hk5 hf5 hal5 hb5 hown HAL9 HB9 HF9 f0 f1 f2 f3 f4 hfl'
                  go_wp2_with fail
                  go_roundw
                  case rel => exact ⟨n3 + 1, j + 1, c5, some ⟨g5, 0, none⟩, p3 ++ [(kk, gn)], S3', R3', rfl, by go_num, HJ2.out, by simp [HP3.out], HN4.out, HS4.out, HRUN2.out, HALZ.out, HBZ.out⟩
                  case measure => simp [intOf]; omega
          · have HE : Hid (S2 = S' ∧ p2 = p1) := by
              have := HRUN.out
              rw [List.take_of_length_le (by rw [HTS.out]; omega), HF.out] at this
              injection this with e1 e2
              exact ⟨e1.symm, e2.symm⟩
            obtain ⟨e1, e2⟩ := HE.out
            subst e1
            subst e2
            have e3 : n2 = n1 := by rw [← HP2.out, ← HP1.out]
            subst e3
            clear HE HRUN HP1 HS2 HN2 HF hz
            have CT1 := hid (alText HAL.out)
            obtain ⟨ts, hts⟩ : ∃ x, rgT S2 = x := ⟨_, rfl⟩
            have CT2 := hid (fun W (hW : Below wr.heap.size wr W) => alText (HAL.out.below hW).swap)
            rw [hts] at CT1 CT2
            clear hts
            go_wp2_with fail
            refine CT1.out.mono ?_
            rintro en w15 ⟨rfl, hb15⟩
            have C15 := hid (CT2.out w15 hb15)
            have HAL15 := hid (HAL.out.below hb15)
            have HB15 := hid (HB.out.trans (hb15.mono HB.out.size))
            clear CT1 CT2 hb15 HAL HB
            go_wp2_with fail
            refine C15.out.mono ?_
            rintro en w16 ⟨rfl, hb16⟩
            have HAL16 := hid (HAL15.out.below hb16)
            have HB16 := hid (HB15.out.trans (hb16.mono HB15.out.size))
            clear C15 hb16 HAL15 HB15
            go_wp2_with fail
            go_loopw [20] (fun iv wr => ∃ (i : Nat), i ≤ n2 ∧ iv = .int .i64 (i : Int) ∧ Alike w.heap.size h g gb k g2 gb2 q ls wr (.slice Aa n2 ca) (.slice Ab n2 cb) p2 p2 S2 [] S2 [] ∧ Below w.heap.size w wr) (fun iv _ => n2 - (intOf iv).toNat)
            case atStart => exact ⟨0, Nat.zero_le _, rfl, HAL16.out, HB16.out⟩
            case round =>
              obtain ⟨i, hi, rfl, hal, hb⟩ := hrel
              have HAL := hid hal; have HB := hid hb
              clear hal hb HAL16 HB16
              by_cases hin : i < n2
              · obtain ⟨b1, x, y, rfl, hb1, hxy, d0, d1⟩ := pair_cells (HAL.out.row1 HP2.out) HP2.out hin
                obtain ⟨b2, x2, y2, rfl, hb2, hxy2, d2, d3⟩ := pair_cells (HAL.out.swap.row1 HP2.out) HP2.out hin
                rw [hxy] at hxy2
                injection hxy2 with hxy2
                injection hxy2 with e1 e2
                subst e1
                subst e2
                have heq := Try.eqPair (x : Int) (y : Int)
                clear hxy
                go_wp2_with fail
                go_quiet (fail)
                have HALQ := hid (HAL.out.below (drewN_below wr nq))
                have HBQ := hid (HB.out.trans ((drewN_below wr nq).mono HB.out.size))
                clear HAL HB d0 d1 d2 d3 hb1 hb2 heq
                go_wp2_with fail
                go_roundw
                case rel => exact ⟨i + 1, by omega, by go_num, HALQ.out, HBQ.out⟩
                case measure => simp [intOf]; omega
              · have hszr := HB.out.size
                go_wp2_with fail
                refine (CLV.out _).mono ?_
                rintro en wz ⟨rfl, hbz⟩
                have HBZ := hid (HB.out.trans (hbz.mono hszr))
                clear hbz
                go_wp2_with fail
                try go_ret
                exact HQ.out _ HBZ.out
      · have HX := HMT.out rfl
        have HN2 : Hid (n1 + 1 + R'.length ≤ 24) := by have := HX.1; have := HN1.out; rw [Hid]; omega
        have HL2 : Hid (S'.length + R'.length ≤ 24) := by have := HLE.out; have := HLEN.out; rw [Hid]; omega
        have HRUN2 : Hid (runP ls S' (p1 ++ [(kk, gn)]) R' = (FS, Fp)) := by rw [Hid, ← HX.2 p1]; exact HRUN.out
        clear HX HMT HMF HRUN HLE HLEN HN1
        have hown : w9.ownsRow w.heap.size 56 2 (.slice Aa n1 ca) n1 (pairCells p1) := by
          obtain ⟨O1, O2, -, -, -, h4, -⟩ := HAL9.out
          rw [HP1.out] at h4
          exact h4
        go_wp2_with (at_builtin; refine wpList_append1K _ rfl _ _ 52 rfl w.heap.size 56 _ 2 16 Try.underlying52 Try.infoPair rfl (by decide) _ _ _ rfl hown 1 [.int .i64 (kk : Int), .int .i64 (gn : Int)] rfl rfl rfl ?_ (by decide) HB9.out.size ?_)
        · omega
        intro g5 c5 w5' hown5 hk5 hf5
        obtain ⟨hal5, hb5⟩ := HAL9.out.app HP1.out hown5 hk5 hf5
        have HALZ := hid hal5
        have HBZ := hid (HB9.out.trans hb5)
        clear hown5 hk5 hf5 hal5 hb5 hown HAL9 HB9 HF9 f0 f1 f2 f3 f4 hfl'
        go_wp2_with fail
        go_roundw
        case rel => exact ⟨n1 + 1, c5, some ⟨g5, 0, none⟩, p1 ++ [(kk, gn)], S', R', by go_num, rfl, by simp [HP1.out], HN2.out, HL2.out, HRUN2.out, HALZ.out, HBZ.out⟩
        case measure => simp [intOf]; omega
  · have he0 : ((e : Int) == 0) = false := by rw [beq_eq_false_iff_ne]; omega
    have he1 : ((e : Int) != 0) = true := by rw [bne, he0]; rfl
    have hsz7 := HB7.out.size
    clear he HD7 HKP7
    go_wp2_with fail
    refine (CLV.out _).mono ?_
    rintro en wz ⟨rfl, hbz⟩
    have HBZ := hid (HB7.out.trans (hbz.mono hsz7))
    clear hbz
    go_wp2_with fail
    try go_ret
    exact HQ.out _ HBZ.out
end Go.Proofs.Ytokeacnanfgmbaa
namespace Go.Proofs.Ytokeacnanfgmbaa
open Go.ChangeShapes Go.WideShapes Go.ChangeAt Go.RowKit Go.WideElems Go.Deep

section
variable {H : Type} {enc : TypeId × Value → H}
theorem Try.cellsU8' : Try.prog.cellsOf 5 = 1 := by kernel_rfl
set_option maxRecDepth 100000 in
theorem open_u8s {W : World} {base : Nat} {v : Value} {d : DataW H} {p : List MemPlace} (hval : Value.okWide Try.prog W .any base 43 v) (h : DataW.Trod enc Try.prog W 0 (fun _ => true) true 43 v d p) : ∃ A n c, ∃ l : List Nat, v = .slice A n c ∧ l.length = n ∧ n ≤ 9223372036854775807 ∧ Rd W A (l.map fun x : Nat => Value.int .u8 (x : Int)) ∧ ∀ x ∈ l, x < 256 := by
  obtain ⟨A, n, c, rfl⟩ := okWide_slice Try.underlying43 hval
  obtain ⟨fuel, hf⟩ := h
  rcases open_slice Try.underlying43 hf with ⟨hcs, hx⟩ | ⟨a, len, cap, m, n', D, Pl, hcs, _, hl, hm, hmm, hx, hi⟩
  · simp [Value.cells] at hcs
    obtain ⟨rfl, rfl, rfl⟩ := hcs
    exact ⟨none, 0, 0, [], rfl, rfl, by omega, .inl rfl, by simp⟩
  · simp [Value.cells] at hcs
    obtain ⟨rfl, rfl, rfl⟩ := hcs
    simp only [if_true] at hmm
    subst hmm
    have hex : ∀ i, i < m → ∃ it : Nat, W.cell? (a.add i) = some (.int .u8 (it : Int)) ∧ it < 256 := by
      intro i him
      obtain ⟨cs', hc, ht⟩ := hi i him
      rw [Try.cellsU8'] at hc
      obtain ⟨_, hlen, hat⟩ := World.cells?_some hc
      obtain ⟨z, hz, _, hw⟩ := DataW.trod_int Try.underlying5 ht
      have h0 := hat 0 (by omega)
      rw [hz] at h0
      rw [addr_add0, Nat.mul_one] at h0
      simp [Lit.wf, IntKind.min, IntKind.max, IntKind.signed, IntKind.bits] at hw
      exact ⟨z.toNat, by rw [h0]; simp; omega, by omega⟩
    obtain ⟨f, hf⟩ := choose_lt hex
    refine ⟨some a, n, m, (List.range n).map f, rfl, by simp, by unfold maxLen at hm; omega, ?_, fun x hx => ?_⟩
    · rcases Nat.eq_zero_or_pos n with h0 | h0
      · subst h0; exact .inl rfl
      · have h00 := (hf 0 (by omega)).1
        obtain ⟨b, off, spot⟩ := a
        have hspot : spot = none := by
          have := World.cell?_spot h00
          simpa [Addr.add] using this
        subst hspot
        have hadd : ∀ i, ((⟨b, off, none⟩ : Addr).add i) = ⟨b, off + i, none⟩ := by
          intro i
          unfold Addr.add
          split <;> simp_all
        refine .inr ⟨b, off, rfl, ?_, fun j u hu => ?_⟩
        · exact World.block_lt_of_cell? W _ h00
        · have hj : j < n := by
            have := (List.getElem?_eq_some_iff.1 hu).1
            rwa [List.length_map, List.length_map, List.length_range] at this
          rw [List.getElem?_map, List.getElem?_map, List.getElem?_range hj] at hu
          simp only [Option.map_some] at hu
          have := (hf j (by omega)).1
          rw [hadd] at this
          rw [this, ← hu]
    · obtain ⟨i, hi2, rfl⟩ := List.mem_map.1 hx
      exact (hf i (by have := List.mem_range.1 hi2; omega)).2
end
end Go.Proofs.Ytokeacnanfgmbaa
namespace Go.Proofs.Ytokeacnanfgmbaa
open Go.ChangeShapes Go.WideShapes Go.ChangeAt Go.RowKit Go.WideElems Go.Deep
open Go.ChangeMaps (open_string shut_string)

set_option maxRecDepth 100000 in
theorem holdAlike_lifted (os : Os) (started : os.Started) (H : Type) (enc : TypeId × Value → H) :
    ReturnsInHanded {} Try.checked os 6 .any (Rows.holdAlikeSpec.pre6 enc Try.prog Try.f6 [] false) (Rows.holdAlikeSpec.post enc Try.prog Try.f6 false true false false) := by
  refine law_lifted 6 Try.f6 Rows.holdAlikeSpec os started H enc Try.func6 (by kernel_rfl) (by kernel_rfl) (by kernel_rfl) rfl (fun ds h => ?_)
    (ChangeSpec.witness6 (enc := enc) (C := Try.checked) false ⟨#[], #[.slice none 0 0, .string ⟨#[]⟩, .slice none 0 0], []⟩ 8 (by kernel_rfl) (by kernel_rfl) (by kernel_rfl) (by kernel_rfl)) ?_
  · have hn : ds.length = 3 := h
    match ds, hn with
    | [d0, d1, d2], _ => rfl
  · intro W args ds p base hval hA _ _
    rw [show Try.f6.params.toList = [42, 9, 43] from by rw [Try.params6]] at hval hA
    obtain ⟨v0, _, d0, _, p0, _, rfl, rfl, rfl, h0, hA⟩ := all_cons hA
    obtain ⟨v1, _, d1, _, p1, _, rfl, rfl, rfl, h1, hA⟩ := all_cons hA
    obtain ⟨v2, _, d2, _, p2, _, rfl, rfl, rfl, h2, hA⟩ := all_cons hA
    obtain rfl := all_nil hA
    obtain ⟨A0, n0, c0, l0, rfl, hl0, hn0, hr0⟩ := open_strs (hval 0 _ v0 rfl rfl) h0
    obtain ⟨s1, rfl, _, _, hs1⟩ := open_string Try.underlying9 (hval 1 _ v1 rfl rfl) h1
    obtain ⟨A2, n2, c2, l2, rfl, hl2, hn2, hr2, hs2⟩ := open_u8s (hval 2 _ v2 rfl rfl) h2
    exact holdAlike_any A0 n0 c0 A2 n2 c2 l0 s1 l2 W hl0 hn0 hr0 hs1 hl2 hn2 hr2 hs2

theorem holdAlike_holds : Rows.HoldAlikeSaid :=
  OpenClaim.holds_of_wide 6 Try.f6 rfl rfl rfl rfl rfl rfl rfl ⟨rfl, rfl, rfl, rfl, rfl⟩ rfl rfl rfl rfl rfl (by kernel_rfl) Try.func6 (by kernel_rfl)
    (of_decide_eq_true (by kernel_rfl)) (by unfold Func.isWrapper; first | (rw [if_pos (by decide +kernel)]; kernel_rfl) | (rw [if_neg (by decide +kernel)]; exact ⟨rfl, rfl⟩))
    (fun os started H enc _ => holdAlike_lifted os started H enc)
#print axioms holdAlike_holds
end Go.Proofs.Ytokeacnanfgmbaa
