/- GlobParses: for every text the law answers true. No condition. -/
import Derived.Test.YtgiffdgicmdmgaaMh
import Derived.Test.YtgiffdgicmdmgaaMb
import Derived.Test.YtgiffdgicmdmgaaMi
namespace Go.Proofs.Ytgiffdgicmdmgaa
open Go.RowKit PopT

theorem parseM_good (p : ByteArray) : goodM (parseM p).1 = true := by
  obtain ⟨h1, h2⟩ := parseP_good p 61 [] 0 (by simp) (by omega) (by simp)
  unfold goodM
  rw [Bool.and_eq_true, List.all_eq_true, decide_eq_true_iff]
  refine ⟨fun x hx => ?_, by have : (parseM p).1.length ≤ 60 := h1; omega⟩
  have := h2 x hx
  cases hr : x.run
  · rfl
  · rw [this hr]; rfl
theorem parseM_len (p : ByteArray) : (parseM p).1.length ≤ 60 := (parseP_good p 61 [] 0 (by simp) (by omega) (by simp)).1
theorem cut_size3 (s : ByteArray) (m : Nat) : (if m < s.size then s.extract 0 m else s).size ≤ m := by
  split
  · rw [ByteArray.size_extract]; omega
  · omega

set_option maxRecDepth 20000 in
set_option maxHeartbeats 1600000 in
theorem globParses_any (s : ByteArray) (w : World) (hs : s.size ≤ 9223372036854775807) :
    Calls Try.prog 10 #[.string s] w fun e w' => e = .returned (.bool true) ∧ Below w.heap.size w w' := by
  have HC := hid (cut_any s 90 w hs (by omega))
  have hsz := cut_size3 s 90
  obtain ⟨t, ht⟩ : ∃ t, (if 90 < s.size then s.extract 0 90 else s) = t := ⟨_, rfl⟩
  rw [ht] at HC hsz
  clear ht hs
  have C1 := hid (fun W => parse_any t (by omega) W)
  have C2 := hid (fun W => parseR_any t (by omega) W)
  have HG := hid (parseM_good t)
  have HLN := hid (parseM_len t)
  obtain ⟨⟨l, a, e⟩, hR⟩ : ∃ R, parseM t = R := ⟨_, rfl⟩
  rw [hR] at C1 C2 HG HLN
  simp only at HG HLN
  obtain ⟨n, hn⟩ : ∃ n, l.length = n := ⟨_, rfl⟩
  have HN := hid hn
  have HSM : Hid (sameI l l = true) := (sameI_iff l l).2 rfl
  have C5 := hid (fun W => lives07_any W)
  clear hR
  go_enter Try.func10, Try.ntmps10
  go_wp2_with fail
  refine HC.out.mono ?_
  rintro en w0 ⟨rfl, rfl⟩
  go_wp2_with fail
  refine (C1.out _).mono ?_
  rintro en w1 ⟨A1, c1, rfl, hown1, hb1⟩
  simp only at hown1
  have HR1 := hid (Rd_of_own hown1)
  have HB1 := hid hb1
  clear hown1 hb1 HC C1
  simp only [hn]
  go_wp2_with fail
  refine (C2.out _).mono ?_
  rintro en w2 ⟨A2, c2, rfl, hown2, hb2⟩
  simp only at hown2
  have HR2 := hid (Rd_of_own hown2)
  have HR3 := hid (HR1.out.below hb2)
  have HB2 := hid (HB1.out.trans (hb2.mono HB1.out.size))
  clear hown2 hb2 HR1 HB1 C2
  simp only [hn]
  clear hn
  have hln : n ≤ 60 := by rw [← HN.out]; exact HLN.out
  have C3 := hid (sameR7_any A1 A2 n n c1 c2 l l w2 HN.out HN.out (by omega) (by omega) HR3.out HR2.out)
  rw [HSM.out] at C3
  go_wp2_with fail
  refine C3.out.mono ?_
  rintro en w3 ⟨rfl, hb3⟩
  have HR4 := hid (HR3.out.below hb3)
  have HB3 := hid (HB2.out.trans (hb3.mono HB2.out.size))
  clear hb3 HR3 HR2 HB2 C3
  by_cases he : e = 0
  · subst he
    have C4 := hid (goodC_any A1 n c1 l w3 HN.out (by omega) HR4.out)
    rw [HG.out] at C4
    go_wp2_with fail
    refine C4.out.mono ?_
    rintro en w4 ⟨rfl, hb4⟩
    have HB4 := hid (HB3.out.trans (hb4.mono HB3.out.size))
    clear hb4 HB3 C4 HR4
    go_wp2_with fail
    refine (C5.out _).mono ?_
    rintro en w5 ⟨rfl, hb5⟩
    have HB5 := hid (HB4.out.trans (hb5.mono HB4.out.size))
    clear hb5
    go_wp2_with fail
    go_ret
    exact ⟨rfl, HB5.out⟩
  · have he0 : ((e : Int) == 0) = false := by rw [beq_eq_false_iff_ne]; omega
    go_wp2_with fail
    refine (C5.out _).mono ?_
    rintro en w5 ⟨rfl, hb5⟩
    have HB5 := hid (HB3.out.trans (hb5.mono HB3.out.size))
    clear hb5
    go_wp2_with fail
    go_ret
    exact ⟨rfl, HB5.out⟩
end Go.Proofs.Ytgiffdgicmdmgaa
namespace Go.Proofs.Ytgiffdgicmdmgaa
open Go.ChangeShapes Go.WideShapes Go.ChangeAt Go.RowKit Go.WideElems Go.Deep
open Go.ChangeMaps (open_string shut_string)

set_option maxRecDepth 100000 in
theorem globParses_lifted (os : Os) (started : os.Started) (H : Type) (enc : TypeId × Value → H) :
    ReturnsInHanded {} Try.checked os 10 .any (Rows.globParsesSpec.pre6 enc Try.prog Try.f10 [] false) (Rows.globParsesSpec.post enc Try.prog Try.f10 false true false false) := by
  refine law_lifted 10 Try.f10 Rows.globParsesSpec os started H enc Try.func10 (by kernel_rfl) (by kernel_rfl) (by kernel_rfl) rfl (fun ds h => ?_)
    (ChangeSpec.witness6 (enc := enc) (C := Try.checked) false ⟨#[], #[.string ⟨#[]⟩], []⟩ 8 (by kernel_rfl) (by kernel_rfl) (by kernel_rfl) (by kernel_rfl)) ?_
  · have hn : ds.length = 1 := h
    match ds, hn with
    | [d0], _ => rfl
  · intro W args ds p base hval hA _ _
    rw [show Try.f10.params.toList = [9] from by rw [Try.params10]] at hval hA
    obtain ⟨v0, _, d0, _, p0, _, rfl, rfl, rfl, h0, hA⟩ := all_cons hA
    obtain rfl := all_nil hA
    obtain ⟨s0, rfl, _, _, hs0⟩ := open_string Try.underlying9 (hval 0 _ v0 rfl rfl) h0
    exact globParses_any s0 W hs0

theorem globParses_holds : Rows.GlobParsesSaid :=
  OpenClaim.holds_of_wide 10 Try.f10 rfl rfl rfl rfl rfl rfl rfl ⟨rfl, rfl, rfl, rfl, rfl⟩ rfl rfl rfl rfl rfl (by kernel_rfl) Try.func10 (by kernel_rfl)
    (of_decide_eq_true (by kernel_rfl)) (by unfold Func.isWrapper; first | (rw [if_pos (by decide +kernel)]; kernel_rfl) | (rw [if_neg (by decide +kernel)]; exact ⟨rfl, rfl⟩))
    (fun os started H enc _ => globParses_lifted os started H enc)
#print axioms globParses_holds
end Go.Proofs.Ytgiffdgicmdmgaa
