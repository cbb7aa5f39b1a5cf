/- The walks of SpanTexts and SpanFinds. The walk of SpanBack. -/
import Derived.Test.YtgiffdgicmdmgaaMq
import Derived.Test.YtgiffdgicmdmgaaMp
import Derived.Test.YtgiffdgicmdmgaaMm
import Derived.Test.YtgiffdgicmdmgaaMc
import Derived.Test.YtgiffdgicmdmgaaMh
namespace Go.Proofs.Ytgiffdgicmdmgaa
open Go.RowKit PopT

theorem first_match (l : List Item) (s : ByteArray) (h : (firstM l s.data.toList).2.2 = true) : matchM l (s.extract (firstM l s.data.toList).1 (firstM l s.data.toList).2.1).data.toList = true := by
  have e : ∀ a b : Nat, (s.extract a b).data.toList = sub s.data.toList a b := by
    intro a b
    simp only [ByteArray.data_extract, Array.toList_extract, List.extract_eq_take_drop, sub]
  rw [e]
  unfold firstM at h ⊢
  cases hi : idxB true (endsAll l s.data.toList) with
  | none => rw [hi] at h; cases h
  | some k =>
    obtain ⟨h1, h2⟩ := starts_some l _ k hi
    cases hs : startsM l s.data.toList k with
    | nil => exact absurd hs h2
    | cons a r =>
      have hm : a ∈ startsM l s.data.toList k := by rw [hs]; exact List.mem_cons_self
      show matchM l (sub s.data.toList ((startsM l s.data.toList k).headD 0) k) = true
      rw [hs, matchM_eq]
      exact ((mem_startsM l _ k a).1 hm).2

theorem checkM_zero (p : ByteArray) (h : (checkM p).2.2 = 0) : (parseM p).2.2 = 0 ∧ matchM (parseM p).1 [] = false ∧ (checkM p).1 = (parseM p).1 := by
  unfold checkM at h ⊢
  by_cases hc : (parseM p).2.2 = 0 ∧ matchM (parseM p).1 [] = true
  · rw [if_pos hc] at h; cases h
  · rw [if_neg hc] at h ⊢
    refine ⟨h, ?_, rfl⟩
    cases hm : matchM (parseM p).1 []
    · rfl
    · exact absurd ⟨h, hm⟩ hc
theorem checkM_pos (p s : ByteArray) (h : (checkM p).2.2 ≠ 0) : textW p s = (⟨#[]⟩, false) := by
  unfold checkM at h
  unfold textW
  by_cases hc : (parseM p).2.2 = 0 ∧ matchM (parseM p).1 [] = true
  · have e : findW (parseM p).1 s.data.toList = (0, 0, false) := by
      rw [findW, if_neg]; rintro ⟨_, h2⟩; rw [hc.2] at h2; cases h2
    rw [if_pos hc.1, e]
    simp only
    congr 1
    apply ByteArray.ext; simp
  · rw [if_neg hc] at h
    rw [if_neg h]

set_option maxRecDepth 20000 in
set_option maxHeartbeats 2000000 in
theorem spanTexts_any (p0 s0 : ByteArray) (w : World) (hp0 : p0.size ≤ 9223372036854775807) (hs0 : s0.size ≤ 9223372036854775807) :
    Calls Try.prog 4 #[.string p0, .string s0] w fun e w' => e = .returned (.bool true) ∧ Below w.heap.size w w' := by
  have K1 := hid (fun W => cutC_any p0 12 W hp0 (by omega))
  have K2 := hid (fun W => cutC_any s0 12 W hs0 (by omega))
  have hp1 := cutM_size 12 p0
  have hs1 := cutM_size 12 s0
  obtain ⟨p, hp⟩ : ∃ p, cutM 12 p0 = p := ⟨_, rfl⟩
  obtain ⟨s, hs⟩ : ∃ s, cutM 12 s0 = s := ⟨_, rfl⟩
  rw [hp] at K1 hp1
  rw [hs] at K2 hs1
  clear hp hs hp0 hs0
  have C1 := hid (textC_any p s w (by omega) (by omega))
  have C2 := hid (fun W => checkR_any p (by omega) W)
  have HLN := hid (checkM_len p)
  have HSZ := hid (size_list s)
  have HK0 := hid (fun h => checkM_zero p h)
  have HK1 := hid (fun h => checkM_pos p s h)
  have HTX : Hid (textW p s = _) := rfl
  have HGP := hid (parseM_good' p)
  by_cases he : (checkM p).2.2 = 0
  · obtain ⟨k1, k2, k3⟩ := HK0.out he
    have HTX2 : Hid (textW p s = (s.extract (firstM (checkM p).1 s.data.toList).1 (firstM (checkM p).1 s.data.toList).2.1, (firstM (checkM p).1 s.data.toList).2.2)) := by
      rw [Hid, textW, if_pos k1, k3, findW, if_pos ⟨HGP.out, k2⟩]
    have HMM := hid (first_match (checkM p).1 s)
    have HBD := hid (first_bounds (checkM p).1 s.data.toList)
    clear HK0 HK1 HTX HGP k1 k2 k3
    obtain ⟨⟨l, a, e⟩, hR⟩ : ∃ R, checkM p = R := ⟨_, rfl⟩
    rw [hR] at C2 HLN HTX2 HMM HBD he
    simp only at HLN HTX2 HMM HBD he
    subst he
    clear hR
    obtain ⟨n, hn⟩ : ∃ n, l.length = n := ⟨_, rfl⟩
    have HN := hid hn
    have hn60 : n ≤ 60 := by have := HLN.out; omega
    have C3 := hid (fun A c W hr => firstR_any A n c l s W hn (by omega) hr (by omega))
    obtain ⟨⟨r1, r2, r3⟩, hF⟩ : ∃ F, firstM l s.data.toList = F := ⟨_, rfl⟩
    rw [hF] at HTX2 HMM HBD C3
    simp only at HTX2 HMM HBD C3
    rw [HTX2.out] at C1
    simp only at C1
    rw [HSZ.out] at HBD
    have hb1 : r1 ≤ r2 := HBD.out.1
    have hb2 : r2 ≤ s.size := HBD.out.2
    have hxs : (s.extract r1 r2).size ≤ 1000000 := by simp; omega
    have C4 := hid (fun A c W hr => matchesR_any A n c l (s.extract r1 r2) W hn (by omega) hr hxs)
    clear hF HTX2 hn HBD hxs
    go_enter Try.func4, Try.ntmps4
    go_wp2_with fail
    refine (K1.out _).mono ?_
    rintro en w0 ⟨rfl, rfl⟩
    go_wp2_with fail
    refine (K2.out _).mono ?_
    rintro en w0 ⟨rfl, rfl⟩
    clear K1 K2
    go_wp2_with fail
    refine C1.out.mono ?_
    rintro en w1 ⟨rfl, hb1'⟩
    have HB1 := hid hb1'
    clear C1 hb1'
    go_wp2_with fail
    refine (C2.out _).mono ?_
    rintro en w2 ⟨A2, c2, rfl, hown2, hb2'⟩
    simp only at hown2
    have HB2 := hid (HB1.out.trans (hb2'.mono HB1.out.size))
    have HR2 := hid (Rd_of_own hown2)
    clear C2 hb2' hown2 HB1
    simp only [HN.out]
    go_wp2_with fail
    refine (C3.out A2 c2 w2 HR2.out).mono ?_
    rintro en w3 ⟨rfl, hb3'⟩
    have HB3 := hid (HB2.out.trans (hb3'.mono HB2.out.size))
    have HR3 := hid (HR2.out.below hb3')
    clear C3 hb3' HB2 HR2
    cases r3
    · clear HMM
      go_wp2_with fail
      refine (lives11_any _).mono ?_
      rintro en w5 ⟨rfl, hb5⟩
      have HB5 := hid (HB3.out.trans (hb5.mono HB3.out.size))
      clear hb5
      go_wp2_with fail
      go_ret
      exact ⟨rfl, HB5.out⟩
    · have HM1 := hid (HMM.out rfl)
      have C5 := hid (C4.out A2 c2 w3 HR3.out)
      rw [HM1.out] at C5
      clear HMM HM1 C4
      go_wp2_with fail
      refine C5.out.mono ?_
      rintro en w4 ⟨rfl, hb4'⟩
      have HB4 := hid (HB3.out.trans (hb4'.mono HB3.out.size))
      clear C5 hb4'
      go_wp2_with fail
      refine (lives11_any _).mono ?_
      rintro en w5 ⟨rfl, hb5⟩
      have HB5 := hid (HB4.out.trans (hb5.mono HB4.out.size))
      clear hb5
      go_wp2_with fail
      go_ret
      exact ⟨rfl, HB5.out⟩
  · rw [HK1.out he] at C1
    simp only at C1
    clear HK0 HK1 HTX HGP
    obtain ⟨⟨l, a, e⟩, hR⟩ : ∃ R, checkM p = R := ⟨_, rfl⟩
    rw [hR] at C2 he
    simp only at he
    have he0 : ((e : Int) == 0) = false := by rw [beq_eq_false_iff_ne]; omega
    clear hR
    go_enter Try.func4, Try.ntmps4
    go_wp2_with fail
    refine (K1.out _).mono ?_
    rintro en w0 ⟨rfl, rfl⟩
    go_wp2_with fail
    refine (K2.out _).mono ?_
    rintro en w0 ⟨rfl, rfl⟩
    clear K1 K2
    go_wp2_with fail
    refine C1.out.mono ?_
    rintro en w1 ⟨rfl, hb1'⟩
    have HB1 := hid hb1'
    clear C1 hb1'
    go_wp2_with fail
    refine (C2.out _).mono ?_
    rintro en w2 ⟨A2, c2, rfl, hown2, hb2'⟩
    have HB2 := hid (HB1.out.trans (hb2'.mono HB1.out.size))
    clear C2 hb2' hown2 HB1
    go_wp2_with fail
    refine (lives11_any _).mono ?_
    rintro en w5 ⟨rfl, hb5⟩
    have HB5 := hid (HB2.out.trans (hb5.mono HB2.out.size))
    clear hb5
    go_wp2_with fail
    go_ret
    exact ⟨rfl, HB5.out⟩

theorem fromZ_starts (l : List Item) (w : List UInt8) (tt : Int) (hg : goodM l = true) (hm : matchM l [] = false) : (fromZ l w tt).2 = decide (0 < (startsZ l w tt).length) ∧ ((fromZ l w tt).2 = true → (startsZ l w tt)[0]? = some (fromZ l w tt).1) ∧ ((fromZ l w tt).2 = false → (fromZ l w tt).1 = 0) := by
  unfold fromZ startsZ
  by_cases h : 0 ≤ tt ∧ tt ≤ w.length
  · rw [if_pos h, if_pos h, fromW, if_pos ⟨hg, hm⟩, fromM]
    cases startsM l w tt.toNat with
    | nil => simp
    | cons a r => simp
  · rw [if_neg h, if_neg h]; simp
theorem fromZ_none (l : List Item) (w : List UInt8) (tt : Int) (h : ¬ (goodM l = true ∧ matchM l [] = false)) : fromZ l w tt = (0, false) := by
  unfold fromZ
  split
  · rw [fromW, if_neg h]
  · rfl
theorem findW_none (l : List Item) (w : List UInt8) (h : ¬ (goodM l = true ∧ matchM l [] = false)) : findW l w = (0, 0, false) := by rw [findW, if_neg h]

set_option maxRecDepth 20000 in
set_option maxHeartbeats 4000000 in
theorem spanFinds_any (A : Option Addr) (n0 c : Nat) (l0 : List Item) (s0 : ByteArray) (tt : Int) (w : World) (hl0 : l0.length = n0) (hn0 : n0 ≤ 9223372036854775807) (hr0 : Rd w A (itemCells l0)) (hs0 : s0.size ≤ 9223372036854775807) (ht : Lit.wf (.int .i64 tt) = true) :
    Calls Try.prog 7 #[.slice A n0 c, .string s0, .int .i64 tt] w fun e w' => e = .returned (.bool true) ∧ Below w.heap.size w w' := by
  have hto : -9223372036854775808 ≤ tt ∧ tt ≤ 9223372036854775807 := by
    simp [Lit.wf, IntKind.min, IntKind.max, IntKind.signed, IntKind.bits] at ht
    omega
  have HTO := hid hto
  have K2 := hid (fun W => cutC_any s0 12 W hs0 (by omega))
  have hs1 := cutM_size 12 s0
  obtain ⟨s, hs⟩ : ∃ s, cutM 12 s0 = s := ⟨_, rfl⟩
  rw [hs] at K2 hs1
  have C0 := hid (few_any A n0 c l0 6 w hl0 hn0 hr0 (by omega))
  have hl1 : (l0.take 6).length = min 6 n0 := by rw [List.length_take, hl0]
  have hn5 : min 6 n0 ≤ 6 := by omega
  obtain ⟨l, hl⟩ : ∃ l, l0.take 6 = l := ⟨_, rfl⟩
  obtain ⟨n, hn⟩ : ∃ n, min 6 n0 = n := ⟨_, rfl⟩
  rw [hn] at C0 hl1 hn5
  rw [hl] at C0 hl1
  have HN := hid hl1
  have HSZ := hid (size_list s)
  clear hl hn hl0 hn0 hr0 hs hs0 hto ht hl1
  have CF := hid (fun A c W hr => few_all A n c l 6 W HN.out (by omega) hr (by omega))
  have C1 := hid (fun A c W hr => findC_any A n c l s W HN.out (by omega) hr (by omega))
  have C2 := hid (fun A c W hr => fromC_any A n c l s tt W HN.out (by omega) hr (by omega) HTO.out.1 HTO.out.2)
  have C3 := hid (fun A c W hr => goodRef_any A n c l W HN.out (by omega) hr)
  have C4 := hid (fun A c W hr => leastR_any A n c l W HN.out (by omega) hr)
  have C5 := hid (fun A c W hr => firstR_any A n c l s W HN.out (by omega) hr (by omega))
  have C6 := hid (fun A c W hr => startsR_any A n c l s tt W HN.out (by omega) hr (by omega) HTO.out.1 HTO.out.2)
  have HST := hid (fromZ_starts l s.data.toList tt)
  have HSN := hid (fromZ_none l s.data.toList tt)
  have HFN := hid (findW_none l s.data.toList)
  have HFY : Hid (goodM l = true ∧ matchM l [] = false → findW l s.data.toList = firstM l s.data.toList) := fun h => by rw [findW, if_pos h]
  have HLZ := hid (least_nil l)
  go_enter Try.func7, Try.ntmps7
  go_wp2_with fail
  refine C0.out.mono ?_
  rintro en w1 ⟨g1, c1, rfl, hown1, hb1⟩
  generalize (some (⟨g1, 0, none⟩ : Addr)) = A1 at *
  have HB1 := hid hb1; have HR1 := hid (Rd_of_own hown1)
  clear C0 hb1 hown1
  go_wp2_with fail
  refine (K2.out _).mono ?_
  rintro en w0 ⟨rfl, rfl⟩
  clear K2
  go_wp2_with fail
  refine (CF.out A1 c1 w1 HR1.out).mono ?_
  rintro en w2 ⟨g2, c2, rfl, hown2, hb2⟩
  have HB2 := hid (HB1.out.trans (hb2.mono HB1.out.size))
  have HR2 := hid (HR1.out.below hb2)
  have hr2 := Rd_of_own hown2
  clear hb2 hown2 HB1 HR1
  go_wp2_with fail
  refine (C1.out _ c2 w2 hr2).mono ?_
  rintro en w3 ⟨rfl, hb3⟩
  have HB3 := hid (HB2.out.trans (hb3.mono HB2.out.size))
  have HR3 := hid (HR2.out.below hb3)
  clear hb3 hr2 HB2 HR2 C1
  obtain ⟨⟨r1, r2, r3⟩, hF⟩ : ∃ F, findW l s.data.toList = F := ⟨_, rfl⟩
  rw [hF] at HFN HFY ⊢
  clear hF
  simp only
  go_wp2_with fail
  refine (CF.out A1 c1 w3 HR3.out).mono ?_
  rintro en w4 ⟨g4, c4, rfl, hown4, hb4⟩
  have HB4 := hid (HB3.out.trans (hb4.mono HB3.out.size))
  have HR4 := hid (HR3.out.below hb4)
  have hr4 := Rd_of_own hown4
  clear hb4 hown4 HB3 HR3 CF
  go_wp2_with fail
  refine (C2.out _ c4 w4 hr4).mono ?_
  rintro en w5 ⟨rfl, hb5⟩
  have HB5 := hid (HB4.out.trans (hb5.mono HB4.out.size))
  have HR5 := hid (HR4.out.below hb5)
  clear hb5 hr4 HB4 HR4 C2
  obtain ⟨⟨f1, f2⟩, hG⟩ : ∃ F, fromZ l s.data.toList tt = F := ⟨_, rfl⟩
  rw [hG] at HST HSN ⊢
  clear hG
  simp only at HST
  simp only
  go_wp2_with fail
  refine (C3.out _ c1 w5 HR5.out).mono ?_
  rintro en w6 ⟨rfl, rfl⟩
  clear C3
  by_cases hg : goodM l = true
  · have HG := hid hg
    rw [hg]
    clear hg
    have C41 := hid (C4.out A1 c1 w5 HR5.out)
    obtain ⟨m, hm⟩ : ∃ m, leastM l = m := ⟨_, rfl⟩
    rw [hm] at HLZ C41
    clear hm C4
    go_wp2_with fail
    refine C41.out.mono ?_
    rintro en w7 ⟨rfl, hb7⟩
    have HB7 := hid (HB5.out.trans (hb7.mono HB5.out.size))
    have HR7 := hid (HR5.out.below hb7)
    clear hb7 C41 HB5 HR5
    by_cases hm0 : m = 0
    · have hng : ¬ (goodM l = true ∧ matchM l [] = false) := by rintro ⟨_, h⟩; rw [HLZ.out.1 hm0] at h; cases h
      obtain ⟨rfl, rfl⟩ : f1 = 0 ∧ f2 = false := by have := HSN.out hng; cases this; exact ⟨rfl, rfl⟩
      obtain ⟨rfl, rfl, rfl⟩ : r1 = 0 ∧ r2 = 0 ∧ r3 = false := by have := HFN.out hng; cases this; exact ⟨rfl, rfl, rfl⟩
      have hm1 : ((m : Int) == 0) = true := by rw [beq_iff_eq]; omega
      clear HST HSN HFN HFY HLZ hm0 hng
      go_wp2_with fail
      refine (lives11_any _).mono ?_
      rintro en w8 ⟨rfl, hb8⟩
      have HB8 := hid (HB7.out.trans (hb8.mono HB7.out.size))
      clear hb8
      go_wp2_with fail
      go_ret
      exact ⟨rfl, HB8.out⟩
    · have hmt : matchM l [] = false := by
        cases hq : matchM l []
        · rfl
        · exact absurd (HLZ.out.2 hq) hm0
      have hm1 : ((m : Int) == 0) = false := by rw [beq_eq_false_iff_ne]; omega
      obtain ⟨st1, st2, st3⟩ := HST.out HG.out hmt
      have HST1 := hid st1; have HST2 := hid st2; have HST3 := hid st3
      have HFY1 : Hid (firstM l s.data.toList = (r1, r2, r3)) := (HFY.out ⟨HG.out, hmt⟩).symm
      rw [HFY1.out] at C5
      simp only at C5
      clear HST HSN HFN HFY HLZ hm0 hmt st1 st2 st3
      go_wp2_with fail
      refine (C5.out _ c1 w7 HR7.out).mono ?_
      rintro en w8 ⟨rfl, hb8⟩
      have HB8 := hid (HB7.out.trans (hb8.mono HB7.out.size))
      have HR8 := hid (HR7.out.below hb8)
      clear hb8 C5 HB7 HR7
      go_wp2_with fail
      refine (C6.out _ c1 w8 HR8.out).mono ?_
      rintro en w9 ⟨A9, c9, rfl, hown9, hb9⟩
      have HB9 := hid (HB8.out.trans (hb9.mono HB8.out.size))
      have HI9 := hid (Rd_of_own hown9)
      clear hb9 C6 HB8 HR8 hown9
      obtain ⟨L, hL⟩ : ∃ L, startsZ l s.data.toList tt = L := ⟨_, rfl⟩
      rw [hL] at HST1 HST2 HI9 ⊢
      clear hL
      cases f2
      · have hz : L.length = 0 := by have := HST1.out; rw [eq_comm, decide_eq_false_iff_not] at this; omega
        have hf1 : f1 = 0 := HST3.out rfl
        subst hf1
        obtain rfl : L = [] := List.eq_nil_of_length_eq_zero hz
        simp only [List.length_nil]
        clear hz HST1 HST2 HST3
        go_wp2_with fail
        refine (lives11_any _).mono ?_
        rintro en wa ⟨rfl, hba⟩
        have HBa := hid (HB9.out.trans (hba.mono HB9.out.size))
        clear hba
        go_wp2_with fail
        go_ret
        exact ⟨rfl, HBa.out⟩
      · have hz : 0 < L.length := by have := HST1.out; rw [eq_comm, decide_eq_true_eq] at this; exact this
        have h0 := HST2.out rfl
        obtain ⟨k, hk⟩ : ∃ k, L.length = k := ⟨_, rfl⟩
        have HI : Hid (∃ b off, A9 = some ⟨b, off, none⟩ ∧ b < w9.heap.size ∧ w9.cell? ⟨b, off, none⟩ = some (.int .i64 (f1 : Int))) := by
          obtain ⟨b, off, h1, h2, h3⟩ := HI9.out.at (by rw [intCells_length, List.length_map]; exact hz)
          refine ⟨b, off, h1, h2, h3 0 _ ?_⟩
          simp only [intCells, List.getElem?_map, h0]; rfl
        obtain ⟨b, off, rfl, hbl, hcell⟩ := HI.out
        rw [hk] at hz ⊢
        have hk0 : (0 : Int) < (k : Int) := by omega
        clear HST1 HST2 HST3 HI HI9 h0 hk
        go_wp2_with fail
        refine (lives11_any _).mono ?_
        rintro en wa ⟨rfl, hba⟩
        have HBa := hid (HB9.out.trans (hba.mono HB9.out.size))
        clear hba
        go_wp2_with fail
        go_ret
        exact ⟨rfl, HBa.out⟩
  · have hng : ¬ (goodM l = true ∧ matchM l [] = false) := fun h => hg h.1
    have hg' : goodM l = false := by simpa using hg
    rw [hg']
    obtain ⟨rfl, rfl⟩ : f1 = 0 ∧ f2 = false := by have := HSN.out hng; cases this; exact ⟨rfl, rfl⟩
    obtain ⟨rfl, rfl, rfl⟩ : r1 = 0 ∧ r2 = 0 ∧ r3 = false := by have := HFN.out hng; cases this; exact ⟨rfl, rfl, rfl⟩
    clear HST HSN HFN HFY HLZ hng hg hg'
    go_wp2_with fail
    refine (lives11_any _).mono ?_
    rintro en w8 ⟨rfl, hb8⟩
    have HB8 := hid (HB5.out.trans (hb8.mono HB5.out.size))
    clear hb8
    go_wp2_with fail
    go_ret
    exact ⟨rfl, HB8.out⟩
end Go.Proofs.Ytgiffdgicmdmgaa
namespace Go.Proofs.Ytgiffdgicmdmgaa
open Go.RowKit PopT

def turnT (s : ByteArray) : ByteArray := ⟨s.data.toList.reverse.toArray⟩
theorem turnT_list (s : ByteArray) : (turnT s).data.toList = s.data.toList.reverse := by simp [turnT]
theorem turnT_size (s : ByteArray) : (turnT s).size = s.size := by
  have h1 := size_list s
  have h2 := size_list (turnT s)
  rw [turnT_list, List.length_reverse] at h2
  omega
theorem rev_take_succ (l : List UInt8) (k : Nat) (h : k < l.length) : l.reverse.take (k + 1) = l.reverse.take k ++ [l[l.length - 1 - k]] := by
  rw [List.take_succ_eq_append_getElem (by simpa using h)]
  congr 2
  rw [List.getElem_reverse]

set_option maxRecDepth 20000 in
set_option maxHeartbeats 1000000 in
theorem turned_any (s : ByteArray) (w : World) (hs : s.size ≤ 100000) :
    Calls Try.prog 29 #[.string s] w fun e w' => e = .returned (.string (turnT s)) ∧ Below w.heap.size w w' := by
  have HSZ := hid (size_list s)
  go_enter Try.func29, Try.ntmps29
  go_wp2_with fail
  have hown0 : (w.alloc (.cells #[] 5)).ownsRow w.heap.size 5 1 (.slice (some ⟨w.heap.size, 0, none⟩) 0 0) 0 (byteCells []) :=
    ⟨rfl, .inr ⟨w.heap.size, 0, #[], rfl, Nat.le_refl _, heap_alloc_new w _, Nat.le_refl _, by unfold maxLen; omega, rfl, rfl⟩⟩
  have HO0 := hid hown0
  have HB0 : Hid (Below w.heap.size w (w.alloc (.cells #[] 5))) := (Below.refl _ w).alloc (Nat.le_refl _) _
  clear hown0
  obtain ⟨w0, hw0⟩ : ∃ w0, w.alloc (.cells #[] 5) = w0 := ⟨_, rfl⟩
  rw [hw0] at HO0 HB0
  rw [hw0]
  clear hw0
  go_loopw [3, 4] (fun v i wr => ∃ (k : Nat) (A : Option Addr) (c : Nat), k ≤ s.size ∧ i = .int .i64 ((s.size : Int) - 1 - (k : Int)) ∧ v = .slice A k c ∧ wr.ownsRow w.heap.size 5 1 (.slice A k c) k (byteCells (s.data.toList.reverse.take k)) ∧ Below w.heap.size w wr) (fun _ i _ => (intOf i + 1).toNat)
  case atStart => exact ⟨0, some ⟨w.heap.size, 0, none⟩, 0, by omega, by simp, rfl, HO0.out, HB0.out⟩
  case round =>
    obtain ⟨k, A, c, hk, rfl, rfl, hown, hb⟩ := hrel
    have HB := hid hb
    clear HO0 HB0
    by_cases hks : k < s.size
    · obtain ⟨i, hi⟩ : ∃ i : Nat, i = s.size - 1 - k := ⟨_, rfl⟩
      have hi1 : (s.size : Int) - 1 - (k : Int) = (i : Int) := by omega
      have hik : (i : Int) + (k : Int) + 1 = (s.size : Int) := by omega
      have his : i < s.size := by omega
      rw [hi1]
      have HE : Hid (s.data.toList.reverse.take (k + 1) = s.data.toList.reverse.take k ++ [s[i]'his]) := by
        rw [Hid, rev_take_succ _ _ (by rw [HSZ.out]; exact hks)]
        congr 2
        have e : s.data.toList.length - 1 - k = i := by rw [HSZ.out]; omega
        simp only [e]; rfl
      have hsz := hb.size
      clear hi hi1 hb
      go_wp2_with (at_builtin; refine wpList_append1 _ rfl _ _ 85 rfl w.heap.size 5 _ 1 1 Try.underlying85 Try.infoU8 rfl (by decide) _ _ _ rfl hown 1 [.int .u8 ((s[i]'his).toNat : Int)] rfl rfl rfl ?_ (by decide) hsz ?_)
      · omega
      intro A2 d2 w3 hown3 hg3
      have hb3 := below_grown HB.out hown hg3 (by omega) (by omega)
      have HO := hid hown3
      have HB3 := hid hb3
      clear hown hown3 HB hg3 hb3
      go_wp2
      go_roundw
      case rel => exact ⟨k + 1, A2, d2, by omega, by go_num, rfl, by rw [HE.out, byteCells, List.map_append]; exact HO.out, HB3.out⟩
      case measure => simp [intOf]
    · have hkk : k = s.size := by omega
      have hk1 : (s.size : Int) - 1 - (k : Int) < 0 := by omega
      have e : s.data.toList.reverse.take k = s.data.toList.reverse := List.take_of_length_le (by rw [List.length_reverse, HSZ.out]; omega)
      rw [e] at hown
      have hcv := conv_own (P := Try.prog) (src := 85) (dst := 9) s.data.toList.reverse Try.underlying85 Try.underlying5 Try.underlying9 hown
      clear hown hkk e
      go_wp2
      go_ret
      exact ⟨rfl, HB.out⟩

set_option maxRecDepth 20000 in
set_option maxHeartbeats 4000000 in
theorem spanBack_any (A : Option Addr) (n0 c : Nat) (l0 : List Item) (s0 : ByteArray) (w : World) (hl0 : l0.length = n0) (hn0 : n0 ≤ 9223372036854775807) (hr0 : Rd w A (itemCells l0)) (hs0 : s0.size ≤ 9223372036854775807) :
    Calls Try.prog 5 #[.slice A n0 c, .string s0] w fun e w' => e = .returned (.bool true) ∧ Below w.heap.size w w' := by
  have K2 := hid (fun W => cutC_any s0 12 W hs0 (by omega))
  have hs1 := cutM_size 12 s0
  obtain ⟨s, hs⟩ : ∃ s, cutM 12 s0 = s := ⟨_, rfl⟩
  rw [hs] at K2 hs1
  have C0 := hid (few_any A n0 c l0 8 w hl0 hn0 hr0 (by omega))
  have hl1 : (l0.take 8).length = min 8 n0 := by rw [List.length_take, hl0]
  have hn5 : min 8 n0 ≤ 8 := by omega
  obtain ⟨l, hl⟩ : ∃ l, l0.take 8 = l := ⟨_, rfl⟩
  obtain ⟨n, hn⟩ : ∃ n, min 8 n0 = n := ⟨_, rfl⟩
  rw [hn] at C0 hl1 hn5
  rw [hl] at C0 hl1
  have HN := hid hl1
  clear hl hn hl0 hn0 hr0 hs hs0 hl1
  have CF := hid (fun A c W hr => few_all A n c l 8 W HN.out (by omega) hr (by omega))
  have C1 := hid (fun A c W hr => backC_any A n c l W HN.out (by omega) hr)
  have C3 := hid (fun A c W hr => goodRef_any A n c l W HN.out (by omega) hr)
  have C4 := hid (fun A c W hr => matchesR_any A n c l.reverse (turnT s) W (by rw [List.length_reverse]; exact HN.out) (by omega) hr (by rw [turnT_size]; omega))
  have C5 := hid (fun A c W hr => matchesR_any A n c l s W HN.out (by omega) hr (by omega))
  have CT := hid (fun W => turned_any s W (by omega))
  have HMM : Hid (matchM l.reverse (turnT s).data.toList = matchM l s.data.toList) := by
    rw [Hid, turnT_list, matchM_eq, matchM_eq, match_rev]
  go_enter Try.func5, Try.ntmps5
  go_wp2_with fail
  refine C0.out.mono ?_
  rintro en w1 ⟨g1, c1, rfl, hown1, hb1⟩
  have HB1 := hid hb1; have HR1 := hid (Rd_of_own hown1)
  clear C0 hb1 hown1
  go_wp2_with fail
  refine (K2.out _).mono ?_
  rintro en w0 ⟨rfl, rfl⟩
  clear K2
  go_wp2_with fail
  refine (CF.out _ c1 w1 HR1.out).mono ?_
  rintro en w2 ⟨g2, c2, rfl, hown2, hb2⟩
  have HB2 := hid (HB1.out.trans (hb2.mono HB1.out.size))
  have HR2 := hid (HR1.out.below hb2)
  have hr2 := Rd_of_own hown2
  clear hb2 hown2 HB1 HR1 CF
  go_wp2_with fail
  refine (C1.out _ c2 w2 hr2).mono ?_
  rintro en w3 ⟨A3, c3, rfl, hown3, hb3⟩
  have HB3 := hid (HB2.out.trans (hb3.mono HB2.out.size))
  have HR3 := hid (HR2.out.below hb3)
  have HM3 := hid (Rd_of_own hown3)
  clear hb3 hr2 HB2 HR2 C1 hown3
  go_wp2_with fail
  go_loopw [6] (fun iv wr => ∃ k : Nat, k ≤ n ∧ iv = .int .i64 (k : Int) ∧ Below w3.heap.size w3 wr) (fun iv _ => n - (intOf iv).toNat)
  case atStart => exact ⟨0, by omega, rfl, Below.refl _ _⟩
  case round =>
    obtain ⟨k, hk, rfl, hbr⟩ := hrel
    have HB4 := hid (HB3.out.trans (hbr.mono HB3.out.size))
    have HR4 := hid (HR3.out.below hbr)
    have HM4 := hid (HM3.out.below hbr)
    have HBR := hid hbr
    clear hbr
    by_cases hkn : k < n
    · obtain ⟨b, off, hA3, hbl, hc⟩ := HM4.out.at (by rw [itemCells_length, List.length_reverse, HN.out]; omega)
      have HKR : Hid (k < l.reverse.length) := by rw [Hid, List.length_reverse, HN.out]; exact hkn
      obtain ⟨d0, d1, d2, d3, d4⟩ := item_at hc k HKR.out
      obtain ⟨m, hm⟩ : ∃ m : Nat, m = n - 1 - k := ⟨_, rfl⟩
      have hmk : (n : Int) - 1 - (k : Int) = (m : Int) := by omega
      have hmn : m < n := by omega
      have HML : Hid (m < l.length) := by rw [Hid, HN.out]; exact hmn
      obtain ⟨b', off', hA1, hbl', hc'⟩ := HR4.out.at (by rw [itemCells_length, HN.out]; omega)
      obtain ⟨rfl, rfl⟩ : g1 = b' ∧ off' = 0 := by cases hA1; exact ⟨rfl, rfl⟩
      obtain ⟨f0, f1, f2, f3, f4⟩ := item_at hc' m HML.out
      have HX : Hid (l.reverse[k]'HKR.out = l[m]'HML.out) := by
        rw [Hid, List.getElem_reverse]
        congr 1
        rw [HN.out]; omega
      rw [HX.out] at d0 d1 d2 d3 d4
      subst hA3
      generalize l[m]'HML.out = x at *
      have heq : ∀ W, (Op.equalIn 10000 52 (.agg #[.bool x.run, w64 x.set.w0, w64 x.set.w1, w64 x.set.w2, w64 x.set.w3]) (.agg #[.bool x.run, w64 x.set.w0, w64 x.set.w1, w64 x.set.w2, w64 x.set.w3])).run Try.prog W = .ok true W := by
        intro W
        rw [Try.eqItem, (eqI_iff x x).2 rfl]
      obtain ⟨r, x0, x1, x2, x3⟩ := x
      simp only [Nat.zero_add] at d0 d1 d2 d3 d4 f0 f1 f2 f3 f4 heq
      clear hc hc' hA1 HX hm
      go_wp2_with fail
      go_quiet (fail)
      go_wp2_with fail
      go_roundw
      case rel => exact ⟨k + 1, by omega, by go_num, HBR.out.trans ⟨rfl, rfl, rfl, Nat.le_refl _, fun _ _ => rfl⟩⟩
      case measure => simp [intOf]; omega
    · have hkk : k = n := by omega
      clear hkk
      go_wp2_with fail
      refine (C3.out _ c1 wr HR4.out).mono ?_
      rintro en w5 ⟨rfl, rfl⟩
      cases hg : goodM l
      · clear hg
        go_wp2_with fail
        refine (lives11_any _).mono ?_
        rintro en w8 ⟨rfl, hb8⟩
        have HB8 := hid (HB4.out.trans (hb8.mono HB4.out.size))
        clear hb8
        go_wp2_with fail
        go_ret
        exact ⟨rfl, HB8.out⟩
      · clear hg
        go_wp2_with fail
        refine (CT.out _).mono ?_
        rintro en w5 ⟨rfl, hb5⟩
        have HB5 := hid (HB4.out.trans (hb5.mono HB4.out.size))
        have HR5 := hid (HR4.out.below hb5)
        have C41 := hid (C4.out A3 c3 w5 (HM4.out.below hb5))
        rw [HMM.out] at C41
        clear hb5 HB4 HR4 HM4 C4
        obtain ⟨z, hz⟩ : ∃ z, matchM l s.data.toList = z := ⟨_, rfl⟩
        rw [hz] at C41 C5
        clear hz HMM
        go_wp2_with fail
        refine C41.out.mono ?_
        rintro en w6 ⟨rfl, hb6⟩
        have HB6 := hid (HB5.out.trans (hb6.mono HB5.out.size))
        have C51 := hid (C5.out _ c1 w6 (HR5.out.below hb6))
        clear hb6 C41 HB5 HR5 C5
        go_wp2_with fail
        refine C51.out.mono ?_
        rintro en w7 ⟨rfl, hb7⟩
        have HB7 := hid (HB6.out.trans (hb7.mono HB6.out.size))
        clear hb7 C51 HB6
        cases z
        · go_wp2_with fail
          refine (lives11_any _).mono ?_
          rintro en w8 ⟨rfl, hb8⟩
          have HB8 := hid (HB7.out.trans (hb8.mono HB7.out.size))
          clear hb8
          go_wp2_with fail
          go_ret
          exact ⟨rfl, HB8.out⟩
        · go_wp2_with fail
          refine (lives11_any _).mono ?_
          rintro en w8 ⟨rfl, hb8⟩
          have HB8 := hid (HB7.out.trans (hb8.mono HB7.out.size))
          clear hb8
          go_wp2_with fail
          go_ret
          exact ⟨rfl, HB8.out⟩
end Go.Proofs.Ytgiffdgicmdmgaa
