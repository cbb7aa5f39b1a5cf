/- GlobPrints: for any two patterns the law answers true. No condition. -/
import Derived.Test.YtgiffdgicmdmgaaMk
import Derived.Test.YtgiffdgicmdmgaaMh
import Derived.Test.YtgiffdgicmdmgaaMi
namespace Go.Proofs.Ytgiffdgicmdmgaa
open Go.RowKit PopT

theorem at_strOf2 (l : List Nat) (h : ∀ d ∈ l, d < 256) : At (strOf l) 0 l := by
  unfold At strOf
  rw [List.drop_zero]
  show List.map UInt8.toNat (List.map UInt8.ofNat l).toArray.toList = l
  rw [List.map_map]
  induction l with
  | nil => rfl
  | cons a l ih =>
    rw [List.map_cons, ih (fun c hc => h c (List.mem_cons_of_mem _ hc))]
    congr 1
    exact UInt8.toNat_ofNat_of_lt' (h a List.mem_cons_self)
theorem parse_print (l : List Item) (hg : goodM l = true) : parseM (strOf (l.flatMap printI)) = (l, 0, 0) := by
  unfold goodM at hg
  rw [Bool.and_eq_true, List.all_eq_true, decide_eq_true_iff] at hg
  obtain ⟨h1, h2⟩ := hg
  have hz : ∀ x ∈ l, x.run = true → x.set = BSet.zero := by
    intro x hx hr
    have := h1 x hx
    rw [hr] at this
    simpa using this
  have h := parseP_texts (strOf (l.flatMap printI)) printI l (fun x hx q r hq => itemP_print (hz x hx) hq) (fun x _ => printI_pos x) [] 0 61 (at_strOf2 _ (texts_byte l)) (by simp; omega) (by omega)
  rw [parseM, h]; rfl

set_option maxRecDepth 20000 in
set_option maxHeartbeats 4000000 in
theorem globPrints_any (A : Option Addr) (n c : Nat) (B : Option Addr) (m d : Nat) (l o : List Item) (w : World) (hl : l.length = n) (hn : n ≤ 9223372036854775807) (hr : Rd w A (itemCells l)) (ho : o.length = m) (hm : m ≤ 9223372036854775807) (hro : Rd w B (itemCells o)) :
    Calls Try.prog 12 #[.slice A n c, .slice B m d] w fun e w' => e = .returned (.bool true) ∧ Below w.heap.size w w' := by
  have C1 := hid (few_any A n c l 64 w hl hn hr (by omega))
  have C2 := hid (fun W (hb : Below w.heap.size w W) => few_any B m d o 64 W ho hm (hro.below hb) (by omega))
  have hl1 : (l.take 64).length = min 64 n := by rw [List.length_take, hl]
  have ho1 : (o.take 64).length = min 64 m := by rw [List.length_take, ho]
  obtain ⟨L, hL⟩ : ∃ L, l.take 64 = L := ⟨_, rfl⟩
  obtain ⟨O, hO⟩ : ∃ O, o.take 64 = O := ⟨_, rfl⟩
  rw [hL] at C1 hl1
  rw [hO] at ho1
  have hO' := hid hO
  obtain ⟨p, hp⟩ : ∃ p, min 64 n = p := ⟨_, rfl⟩
  obtain ⟨q, hq⟩ : ∃ q, min 64 m = q := ⟨_, rfl⟩
  have hp64 : p ≤ 64 := by omega
  have hq64 : q ≤ 64 := by omega
  rw [hp] at C1 hl1
  rw [hq] at ho1
  have HL := hid hl1
  have HO := hid ho1
  have HQ := hid hq
  have C5 := hid (fun W => lives07_any W)
  have HSM : Hid (sameI L L = true) := (sameI_iff L L).2 rfl
  obtain ⟨sm, hsm⟩ : ∃ b, sameI L O = b := ⟨_, rfl⟩
  have HSO := hid hsm
  clear hl hr ho hro hn hm hL hp hl1 ho1 hq hsm hO
  go_enter Try.func12, Try.ntmps12
  go_wp2_with fail
  refine C1.out.mono ?_
  rintro en v1 ⟨g1, c1, rfl, hown, hb⟩
  have HR1 := hid (Rd_of_own hown)
  have HB := hid hb
  clear hown hb C1
  go_wp2_with fail
  refine (C2.out _ HB.out).mono ?_
  rintro en v2 ⟨g2, c2, rfl, hown, hb⟩
  have hown2 : v2.ownsRow v1.heap.size 52 5 (.slice (some ⟨g2, 0, none⟩) q c2) q (itemCells O) := by rw [← hO'.out, ← HQ.out]; exact hown
  simp only [HQ.out]
  have HR2 := hid (Rd_of_own hown2)
  replace HR1 := hid (HR1.out.below hb)
  replace HB := hid (HB.out.trans (hb.mono HB.out.size))
  clear hown hown2 hb C2 HQ hO'
  go_wp2_with fail
  refine (few_all (some ⟨g1, 0, none⟩) p c1 L 64 v2 HL.out (by omega) HR1.out (by omega)).mono ?_
  rintro en v3 ⟨g3, c3, rfl, hown, hb⟩
  have HR3 := hid (Rd_of_own hown)
  clear hown
  replace HR1 := hid (HR1.out.below hb)
  replace HR2 := hid (HR2.out.below hb)
  replace HB := hid (HB.out.trans (hb.mono HB.out.size))
  clear hb
  cases hg : goodM L
  · skip
    have HGF := hid hg
    clear hg
    go_wp2_with fail
    refine (gprint_bad (some ⟨g3, 0, none⟩) p c3 L v3 HL.out (by omega) HR3.out HGF.out).mono ?_
    rintro en v4 ⟨rfl, hb⟩
    replace HR1 := hid (HR1.out.below hb)
    replace HR2 := hid (HR2.out.below hb)
    replace HR3 := hid (HR3.out.below hb)
    replace HB := hid (HB.out.trans (hb.mono HB.out.size))
    clear hb
    clear HR3
    go_wp2_with fail
    refine (few_all (some ⟨g1, 0, none⟩) p c1 L 64 v4 HL.out (by omega) HR1.out (by omega)).mono ?_
    rintro en v5 ⟨g4, c4, rfl, hown, hb⟩
    have HR4 := hid (Rd_of_own hown)
    clear hown
    replace HR1 := hid (HR1.out.below hb)
    replace HR2 := hid (HR2.out.below hb)
    replace HB := hid (HB.out.trans (hb.mono HB.out.size))
    clear hb
    go_wp2_with fail
    refine (goodC_any (some ⟨g4, 0, none⟩) p c4 L v5 HL.out (by omega) HR4.out).mono ?_
    rintro en v6 ⟨rfl, hb⟩
    replace HR1 := hid (HR1.out.below hb)
    replace HR2 := hid (HR2.out.below hb)
    replace HR4 := hid (HR4.out.below hb)
    replace HB := hid (HB.out.trans (hb.mono HB.out.size))
    clear hb
    clear HR4
    go_wp2_with fail
    refine (goodRef_any (some ⟨g1, 0, none⟩) p c1 L v6 HL.out (by omega) HR1.out).mono ?_
    rintro en v ⟨rfl, rfl⟩
    rw [HGF.out]
    go_wp2_with fail
    refine (few_all (some ⟨g1, 0, none⟩) p c1 L 64 v6 HL.out (by omega) HR1.out (by omega)).mono ?_
    rintro en v7 ⟨g5, c5, rfl, hown, hb⟩
    have HR5 := hid (Rd_of_own hown)
    clear hown
    replace HR1 := hid (HR1.out.below hb)
    replace HR2 := hid (HR2.out.below hb)
    replace HB := hid (HB.out.trans (hb.mono HB.out.size))
    clear hb
    go_wp2_with fail
    refine (few_all (some ⟨g2, 0, none⟩) q c2 O 64 v7 HO.out (by omega) HR2.out (by omega)).mono ?_
    rintro en v8 ⟨g6, c6, rfl, hown, hb⟩
    have HR6 := hid (Rd_of_own hown)
    clear hown
    replace HR1 := hid (HR1.out.below hb)
    replace HR2 := hid (HR2.out.below hb)
    replace HR5 := hid (HR5.out.below hb)
    replace HB := hid (HB.out.trans (hb.mono HB.out.size))
    clear hb
    go_wp2_with fail
    refine (sameC_any (some ⟨g5, 0, none⟩) (some ⟨g6, 0, none⟩) p q c5 c6 L O v8 HL.out HO.out (by omega) (by omega) HR5.out HR6.out).mono ?_
    rintro en v9 ⟨rfl, hb⟩
    replace HR1 := hid (HR1.out.below hb)
    replace HR2 := hid (HR2.out.below hb)
    replace HR5 := hid (HR5.out.below hb)
    replace HR6 := hid (HR6.out.below hb)
    replace HB := hid (HB.out.trans (hb.mono HB.out.size))
    clear hb
    clear HR5 HR6
    go_wp2_with fail
    refine (sameR7_any (some ⟨g1, 0, none⟩) (some ⟨g2, 0, none⟩) p q c1 c2 L O v9 HL.out HO.out (by omega) (by omega) HR1.out HR2.out).mono ?_
    rintro en v10 ⟨rfl, hb⟩
    replace HR1 := hid (HR1.out.below hb)
    replace HR2 := hid (HR2.out.below hb)
    replace HB := hid (HB.out.trans (hb.mono HB.out.size))
    clear hb
    go_wp2_with fail
    refine (few_all (some ⟨g1, 0, none⟩) p c1 L 64 v10 HL.out (by omega) HR1.out (by omega)).mono ?_
    rintro en v11 ⟨g7, c7, rfl, hown, hb⟩
    have HR7 := hid (Rd_of_own hown)
    clear hown
    replace HR1 := hid (HR1.out.below hb)
    replace HR2 := hid (HR2.out.below hb)
    replace HB := hid (HB.out.trans (hb.mono HB.out.size))
    clear hb
    go_wp2_with fail
    refine (few_all (some ⟨g1, 0, none⟩) p c1 L 64 v11 HL.out (by omega) HR1.out (by omega)).mono ?_
    rintro en v12 ⟨g8, c8, rfl, hown, hb⟩
    have HR8 := hid (Rd_of_own hown)
    clear hown
    replace HR1 := hid (HR1.out.below hb)
    replace HR2 := hid (HR2.out.below hb)
    replace HR7 := hid (HR7.out.below hb)
    replace HB := hid (HB.out.trans (hb.mono HB.out.size))
    clear hb
    go_wp2_with fail
    refine (sameC_any (some ⟨g7, 0, none⟩) (some ⟨g8, 0, none⟩) p p c7 c8 L L v12 HL.out HL.out (by omega) (by omega) HR7.out HR8.out).mono ?_
    rintro en v13 ⟨rfl, hb⟩
    replace HR1 := hid (HR1.out.below hb)
    replace HR2 := hid (HR2.out.below hb)
    replace HR7 := hid (HR7.out.below hb)
    replace HR8 := hid (HR8.out.below hb)
    replace HB := hid (HB.out.trans (hb.mono HB.out.size))
    clear hb
    clear HR7 HR8
    rw [HSM.out]
    go_wp2_with fail
    refine (goodRef_any (some ⟨g1, 0, none⟩) p c1 L v13 HL.out (by omega) HR1.out).mono ?_
    rintro en v ⟨rfl, rfl⟩
    rw [HGF.out]
    go_wp2_with fail
    refine (C5.out v13).mono ?_
    rintro en v14 ⟨rfl, hb⟩
    replace HR1 := hid (HR1.out.below hb)
    replace HR2 := hid (HR2.out.below hb)
    replace HB := hid (HB.out.trans (hb.mono HB.out.size))
    clear hb
    go_wp2_with fail
    go_ret
    exact ⟨rfl, HB.out⟩
  · skip
    have HGF := hid hg
    have HPP := hid (parse_print L hg)
    have hsz : (strOf (L.flatMap printI)).size ≤ 82560 := by rw [strOf_size']; have := flat_len L; rw [HL.out] at this; omega
    clear hg
    go_wp2_with fail
    refine (gprint_any (some ⟨g3, 0, none⟩) p c3 L v3 HL.out HR3.out HGF.out).mono ?_
    rintro en v4 ⟨rfl, hb⟩
    replace HR1 := hid (HR1.out.below hb)
    replace HR2 := hid (HR2.out.below hb)
    replace HR3 := hid (HR3.out.below hb)
    replace HB := hid (HB.out.trans (hb.mono HB.out.size))
    clear hb
    clear HR3
    obtain ⟨TX, hTX⟩ : ∃ T, strOf (L.flatMap printI) = T := ⟨_, rfl⟩
    rw [hTX] at HPP hsz ⊢
    have HTX := hid hTX
    clear hTX
    go_wp2_with fail
    refine (few_all (some ⟨g1, 0, none⟩) p c1 L 64 v4 HL.out (by omega) HR1.out (by omega)).mono ?_
    rintro en v5 ⟨g4, c4, rfl, hown, hb⟩
    have HR4 := hid (Rd_of_own hown)
    clear hown
    replace HR1 := hid (HR1.out.below hb)
    replace HR2 := hid (HR2.out.below hb)
    replace HB := hid (HB.out.trans (hb.mono HB.out.size))
    clear hb
    go_wp2_with fail
    refine (goodC_any (some ⟨g4, 0, none⟩) p c4 L v5 HL.out (by omega) HR4.out).mono ?_
    rintro en v6 ⟨rfl, hb⟩
    replace HR1 := hid (HR1.out.below hb)
    replace HR2 := hid (HR2.out.below hb)
    replace HR4 := hid (HR4.out.below hb)
    replace HB := hid (HB.out.trans (hb.mono HB.out.size))
    clear hb
    clear HR4
    go_wp2_with fail
    refine (goodRef_any (some ⟨g1, 0, none⟩) p c1 L v6 HL.out (by omega) HR1.out).mono ?_
    rintro en v ⟨rfl, rfl⟩
    rw [HGF.out]
    go_wp2_with fail
    refine (few_all (some ⟨g1, 0, none⟩) p c1 L 64 v6 HL.out (by omega) HR1.out (by omega)).mono ?_
    rintro en v7 ⟨g5, c5, rfl, hown, hb⟩
    have HR5 := hid (Rd_of_own hown)
    clear hown
    replace HR1 := hid (HR1.out.below hb)
    replace HR2 := hid (HR2.out.below hb)
    replace HB := hid (HB.out.trans (hb.mono HB.out.size))
    clear hb
    go_wp2_with fail
    refine (few_all (some ⟨g2, 0, none⟩) q c2 O 64 v7 HO.out (by omega) HR2.out (by omega)).mono ?_
    rintro en v8 ⟨g6, c6, rfl, hown, hb⟩
    have HR6 := hid (Rd_of_own hown)
    clear hown
    replace HR1 := hid (HR1.out.below hb)
    replace HR2 := hid (HR2.out.below hb)
    replace HR5 := hid (HR5.out.below hb)
    replace HB := hid (HB.out.trans (hb.mono HB.out.size))
    clear hb
    go_wp2_with fail
    refine (sameC_any (some ⟨g5, 0, none⟩) (some ⟨g6, 0, none⟩) p q c5 c6 L O v8 HL.out HO.out (by omega) (by omega) HR5.out HR6.out).mono ?_
    rintro en v9 ⟨rfl, hb⟩
    replace HR1 := hid (HR1.out.below hb)
    replace HR2 := hid (HR2.out.below hb)
    replace HR5 := hid (HR5.out.below hb)
    replace HR6 := hid (HR6.out.below hb)
    replace HB := hid (HB.out.trans (hb.mono HB.out.size))
    clear hb
    clear HR5 HR6
    go_wp2_with fail
    refine (sameR7_any (some ⟨g1, 0, none⟩) (some ⟨g2, 0, none⟩) p q c1 c2 L O v9 HL.out HO.out (by omega) (by omega) HR1.out HR2.out).mono ?_
    rintro en v10 ⟨rfl, hb⟩
    replace HR1 := hid (HR1.out.below hb)
    replace HR2 := hid (HR2.out.below hb)
    replace HB := hid (HB.out.trans (hb.mono HB.out.size))
    clear hb
    go_wp2_with fail
    refine (few_all (some ⟨g1, 0, none⟩) p c1 L 64 v10 HL.out (by omega) HR1.out (by omega)).mono ?_
    rintro en v11 ⟨g7, c7, rfl, hown, hb⟩
    have HR7 := hid (Rd_of_own hown)
    clear hown
    replace HR1 := hid (HR1.out.below hb)
    replace HR2 := hid (HR2.out.below hb)
    replace HB := hid (HB.out.trans (hb.mono HB.out.size))
    clear hb
    go_wp2_with fail
    refine (few_all (some ⟨g1, 0, none⟩) p c1 L 64 v11 HL.out (by omega) HR1.out (by omega)).mono ?_
    rintro en v12 ⟨g8, c8, rfl, hown, hb⟩
    have HR8 := hid (Rd_of_own hown)
    clear hown
    replace HR1 := hid (HR1.out.below hb)
    replace HR2 := hid (HR2.out.below hb)
    replace HR7 := hid (HR7.out.below hb)
    replace HB := hid (HB.out.trans (hb.mono HB.out.size))
    clear hb
    go_wp2_with fail
    refine (sameC_any (some ⟨g7, 0, none⟩) (some ⟨g8, 0, none⟩) p p c7 c8 L L v12 HL.out HL.out (by omega) (by omega) HR7.out HR8.out).mono ?_
    rintro en v13 ⟨rfl, hb⟩
    replace HR1 := hid (HR1.out.below hb)
    replace HR2 := hid (HR2.out.below hb)
    replace HR7 := hid (HR7.out.below hb)
    replace HR8 := hid (HR8.out.below hb)
    replace HB := hid (HB.out.trans (hb.mono HB.out.size))
    clear hb
    clear HR7 HR8
    rw [HSM.out]
    go_wp2_with fail
    refine (goodRef_any (some ⟨g1, 0, none⟩) p c1 L v13 HL.out (by omega) HR1.out).mono ?_
    rintro en v ⟨rfl, rfl⟩
    rw [HGF.out]
    go_wp2_with fail
    refine (gprintR_any (some ⟨g1, 0, none⟩) p c1 L v13 HL.out (by omega) HR1.out).mono ?_
    rintro en v14 ⟨rfl, hb⟩
    replace HR1 := hid (HR1.out.below hb)
    replace HR2 := hid (HR2.out.below hb)
    replace HB := hid (HB.out.trans (hb.mono HB.out.size))
    clear hb
    rw [HTX.out]
    go_wp2_with fail
    refine (parse_any TX (by omega) v14).mono ?_
    rintro en v15 ⟨A9, c9, rfl, hown, hb⟩
    rw [HPP.out] at hown ⊢
    simp only at hown ⊢
    have HR9 := hid (Rd_of_own hown)
    clear hown
    simp only [HL.out]
    replace HR1 := hid (HR1.out.below hb)
    replace HR2 := hid (HR2.out.below hb)
    replace HB := hid (HB.out.trans (hb.mono HB.out.size))
    clear hb
    go_wp2_with fail
    refine (gprintR_any (some ⟨g1, 0, none⟩) p c1 L v15 HL.out (by omega) HR1.out).mono ?_
    rintro en v16 ⟨rfl, hb⟩
    replace HR1 := hid (HR1.out.below hb)
    replace HR2 := hid (HR2.out.below hb)
    replace HR9 := hid (HR9.out.below hb)
    replace HB := hid (HB.out.trans (hb.mono HB.out.size))
    clear hb
    rw [HTX.out]
    go_wp2_with fail
    refine (sameR7_any A9 (some ⟨g1, 0, none⟩) p p c9 c1 L L v16 HL.out HL.out (by omega) (by omega) HR9.out HR1.out).mono ?_
    rintro en v17 ⟨rfl, hb⟩
    replace HR1 := hid (HR1.out.below hb)
    replace HR2 := hid (HR2.out.below hb)
    replace HR9 := hid (HR9.out.below hb)
    replace HB := hid (HB.out.trans (hb.mono HB.out.size))
    clear hb
    rw [HSM.out]
    go_wp2_with fail
    refine (C5.out v17).mono ?_
    rintro en v18 ⟨rfl, hb⟩
    replace HR1 := hid (HR1.out.below hb)
    replace HR2 := hid (HR2.out.below hb)
    replace HR9 := hid (HR9.out.below hb)
    replace HB := hid (HB.out.trans (hb.mono HB.out.size))
    clear hb
    go_wp2_with fail
    go_ret
    exact ⟨rfl, HB.out⟩
end Go.Proofs.Ytgiffdgicmdmgaa
namespace Go.Proofs.Ytgiffdgicmdmgaa
open Go.ChangeShapes Go.WideShapes Go.ChangeAt Go.RowKit Go.WideElems Go.Deep
open Go.ChangeMaps (open_string shut_string)

set_option maxRecDepth 100000 in
theorem globPrints_lifted (os : Os) (started : os.Started) (H : Type) (enc : TypeId × Value → H) :
    ReturnsInHanded {} Try.checked os 12 .any (Rows.globPrintsSpec.pre6 enc Try.prog Try.f12 [] false) (Rows.globPrintsSpec.post enc Try.prog Try.f12 false true false false) := by
  refine law_lifted 12 Try.f12 Rows.globPrintsSpec os started H enc Try.func12 (by kernel_rfl) (by kernel_rfl) (by kernel_rfl) rfl (fun ds h => ?_)
    (ChangeSpec.witness6 (enc := enc) (C := Try.checked) false ⟨#[], #[.slice none 0 0, .slice none 0 0], []⟩ 8 (by kernel_rfl) (by kernel_rfl) (by kernel_rfl) (by kernel_rfl)) ?_
  · have hn : ds.length = 2 := h
    match ds, hn with
    | [d0, d1], _ => rfl
  · intro W args ds p base hval hA _ _
    rw [show Try.f12.params.toList = [34, 34] from by rw [Try.params12]] at hval hA
    obtain ⟨v0, _, d0, _, p0, _, rfl, rfl, rfl, h0, hA⟩ := all_cons hA
    obtain ⟨v1, _, d1, _, p1, _, rfl, rfl, rfl, h1, hA⟩ := all_cons hA
    obtain rfl := all_nil hA
    obtain ⟨A0, n0, c0, l0, rfl, hl0, hn0, hr0⟩ := open_items (hval 0 _ v0 rfl rfl) h0
    obtain ⟨A1, n1, c1, l1, rfl, hl1, hn1, hr1⟩ := open_items (hval 1 _ v1 rfl rfl) h1
    exact globPrints_any A0 n0 c0 A1 n1 c1 l0 l1 W hl0 hn0 hr0 hl1 hn1 hr1

theorem globPrints_holds : Rows.GlobPrintsSaid :=
  OpenClaim.holds_of_wide 12 Try.f12 rfl rfl rfl rfl rfl rfl rfl ⟨rfl, rfl, rfl, rfl, rfl⟩ rfl rfl rfl rfl rfl (by kernel_rfl) Try.func12 (by kernel_rfl)
    (of_decide_eq_true (by kernel_rfl)) (by unfold Func.isWrapper; first | (rw [if_pos (by decide +kernel)]; kernel_rfl) | (rw [if_neg (by decide +kernel)]; exact ⟨rfl, rfl⟩))
    (fun os started H enc _ => globPrints_lifted os started H enc)
#print axioms globPrints_holds
end Go.Proofs.Ytgiffdgicmdmgaa
