/- The law SlotsLeast: whoever comes gets the least slot that nobody has, and a number that nobody had. -/
import Derived.Test.YtdbiodofofnpgaaNc
import Derived.Test.YtdbiodofofnpgaaNd
namespace Go.Proofs.Ytdbiodofofnpgaa
open Go.RowKit Go.Maps

theorem withinLo_any (x lo hi : Int) (w : World) (h : x < lo) : Calls Try.prog 42 #[.int .i64 x, .int .i64 lo, .int .i64 hi] w fun e w' => e = .returned (.int .i64 lo) ∧ w = w' := by
  go_enter Try.func42, Try.ntmps42
  go_wp2
  go_ret
  exact ⟨rfl, rfl⟩
theorem withinIn_any (x lo hi : Int) (w : World) (h1 : lo ≤ x) (h2 : x ≤ hi) : Calls Try.prog 42 #[.int .i64 x, .int .i64 lo, .int .i64 hi] w fun e w' => e = .returned (.int .i64 x) ∧ w = w' := by
  go_enter Try.func42, Try.ntmps42
  go_wp2
  go_ret
  exact ⟨rfl, rfl⟩
def lowF (l : List Int) (k : Nat) : Int := match idxI (-1) (l.drop k) with
  | some j => ((k + j : Nat) : Int)
  | none => -1
theorem lowF_end (l : List Int) : lowF l l.length = -1 := by unfold lowF; rw [List.drop_length]; rfl
theorem lowF_step (l : List Int) (k : Nat) (h : k < l.length) : lowF l k = if l[k] = -1 then (k : Int) else lowF l (k + 1) := by
  unfold lowF
  rw [idxI_drop (-1) l k h]
  by_cases hx : l[k] = -1
  · rw [if_pos hx, if_pos hx]; rfl
  · rw [if_neg hx, if_neg hx]
    cases idxI (-1) (l.drop (k + 1)) with
    | none => rfl
    | some j => show ((k + (j + 1) : Nat) : Int) = ((k + 1 + j : Nat) : Int); congr 1; omega
theorem lowF_zero (m : Nat) (L : SlL) : lowF (whoL m L) 0 = match freeL m L with
    | some k => (k : Int)
    | none => -1 := by
  unfold lowF freeL
  rw [List.drop_zero]
  cases idxI (-1) (whoL m L) with
  | none => rfl
  | some j => show ((0 + j : Nat) : Int) = (j : Int); rw [Nat.zero_add]

set_option maxRecDepth 20000 in
set_option maxHeartbeats 4000000 in
theorem slotsLeast_any (A : Option Addr) (n c : Nat) (xi : Int) (l : List Nat) (w : World) (hw : Lit.wf (.int .u8 xi) = true) (hl : l.length = n) (hn : n ≤ 9223372036854775807) (hr : Rd w A (l.map fun x : Nat => Value.int .u8 (x : Int))) (hs : ∀ x ∈ l, x < 256) :
    Calls Try.prog 7 #[.int .u8 xi, .slice A n c] w fun e w' => e = .returned (.bool true) ∧ Below w.heap.size w w' := by
  have hn2 := hn
  obtain ⟨x, rfl, hx⟩ : ∃ x : Nat, xi = (x : Int) ∧ x < 256 := by
    have hb : 0 ≤ xi ∧ xi < 256 := by
      simp [Lit.wf, IntKind.min, IntKind.max, IntKind.signed, IntKind.bits] at hw
      omega
    exact ⟨xi.toNat, by omega, by omega⟩
  have HL := hid hl; have HR := hid hr; have HS0 := hid hs
  have CLV := hid (fun W => lives28_any W)
  clear hw hl hr hs hn
  obtain ⟨d, hd⟩ : ∃ d : Nat, x % 8 = d := ⟨_, rfl⟩
  have hd' : (x : Int) % 8 = (d : Int) := by omega
  have hd8 : d ≤ 7 := by omega
  obtain ⟨N, hN⟩ : ∃ N : Nat, 1 + d = N := ⟨_, rfl⟩
  have hN' : (1 : Int) + (d : Int) = (N : Int) := by omega
  have hN8 : 1 ≤ N ∧ N ≤ 8 := by omega
  clear hd hN
  go_enter Try.func7, Try.ntmps7
  go_wp2_with fail
  refine (slNew_any N (by omega) (by omega) _).mono ?_
  rintro en w1 ⟨g, gw, gm, rfl, hs1, hb1⟩
  have HS1 := hid hs1; have HB1 := hid hb1
  clear hs1 hb1 hN' hd'
  go_wp2_with fail
  go_loopw [7, 8] (fun lv iv wr => ∃ (i next : Nat) (L : SlL) (last : Int), lv = .int .i64 last ∧ iv = .int .i64 (i : Int) ∧ i ≤ 40 ∧ i ≤ n ∧ next ≤ i ∧ -1 ≤ last ∧ last < (next : Int) ∧ SL wr g gw gm w.heap.size N L next ∧ Below w.heap.size w wr) (fun _ iv _ => 40 - (intOf iv).toNat)
  case atStart => exact ⟨0, 0, [], -1, rfl, rfl, by omega, by omega, by omega, by omega, by omega, HS1.out, HB1.out⟩
  case round =>
    obtain ⟨i, next, L, last, rfl, rfl, hi40, hin, hnx, hl1, hl2, hsl, hbb⟩ := hrel
    have HSL := hid hsl; have HB := hid hbb
    clear hsl hbb HS1 HB1
    by_cases hlt : i < n
    · by_cases hlt4 : i < 40
      · have HK : Hid (i < l.length) := by rw [Hid, HL.out]; exact hlt
        obtain ⟨b, off, hA, hbl, hc⟩ := HR.out.at (by rw [List.length_map, HL.out]; omega)
        have d0 := hc i (.int .u8 ((l[i]'HK.out : Nat) : Int)) (by rw [List.getElem?_map, List.getElem?_eq_getElem HK.out]; rfl)
        have hcx := HS0.out _ (List.getElem_mem HK.out)
        obtain ⟨cx, hcc⟩ : ∃ y, l[i]'HK.out = y := ⟨_, rfl⟩
        rw [hcc] at d0 hcx
        have HD0 := hid d0
        subst hA
        clear d0 hc hcc
        have hlen : (whoL N L).length = N := whoL_length N L
        have hli4 : (i : Int) < 40 := by omega
        have hd4 : decide ((i : Int) < 40) = true := decide_eq_true hli4
        have hlin : (i : Int) < (n : Int) := by omega
        have hdin : decide ((i : Int) < (n : Int)) = true := decide_eq_true hlin
        go_wp2_with fail
        go_loopw [9, 10] (fun fv kv wq => ∃ (z f : Int) (k : Nat), kv = .int .i64 z ∧ fv = .int .i64 f ∧ Hid (z = (k : Int) - 1) ∧ k ≤ N ∧ Hid (f = lowF (whoL N L) k) ∧ SL wq g gw gm w.heap.size N L next ∧ Below w.heap.size w wq) (fun _ kv _ => (intOf kv + 1).toNat)
        case atStart => exact ⟨(N : Int) - 1, -1, N, by first | rfl | go_num, rfl, rfl, Nat.le_refl _, by rw [Hid]; rw [← lowF_end (whoL N L), hlen], HSL.out, HB.out⟩
        case round =>
          obtain ⟨z, f, k, rfl, rfl, HZ, hkN, HF, hsl, hbb⟩ := hrel
          have HSQ := hid hsl; have HBQ := hid hbb
          clear hsl hbb HSL HB
          rcases k with _ | k
          · have hz : z = -1 := HZ.out
            subst hz
            have HF0 : Hid (f = match freeL N L with
                | some k => (k : Int)
                | none => -1) := HF.out.trans (lowF_zero N L)
            obtain ⟨hok, -, -, -⟩ := HSQ.out.ok
            have HOK := hid hok
            have HFN := hid (freeL_none hok)
            clear HF HZ hok
            rcases hfr : freeL N L with _ | kk
            · rw [hfr] at HF0 HFN
              have hf : f = -1 := HF0.out
              subst hf
              have hLN : L.length = N := HFN.out.1 rfl
              have C1 := hid (slOpenNo_any HSQ.out (.inr hLN))
              have hnx1 : 1 ≤ next := by
                rcases L with _ | ⟨y, L⟩
                · simp at hLN; omega
                · have := (HOK.out.lt y (List.mem_cons_self ..)).1; omega
              clear HF0 HFN hLN hfr
              go_wp2_with fail
              refine C1.out.mono ?_
              rintro en wt ⟨rfl, hb⟩
              have HST := hid (HSQ.out.below hb)
              have HBT := hid (HBQ.out.trans (hb.mono HBQ.out.size))
              clear C1 hb HSQ HBQ
              by_cases hl0 : last < 0
              · have CW := hid (fun W => withinLo_any last 0 4096 W hl0)
                have hl9 : last = -1 := by omega
                subst hl9
                go_wp2_with fail
                refine (CW.out _).mono ?_
                rintro en wu ⟨rfl, rfl⟩
                clear CW
                have d0 := (HBT.out.cell (p := ⟨b, off + i, none⟩) hbl).trans HD0.out
                have C2 := hid (slClose_any (cx : Int) HST.out (WalkArith.wf_i64 (by omega)))
                go_wp2_with fail
                refine C2.out.mono ?_
                rintro en w3 ⟨rfl, hs3, hb3⟩
                have HS3 := hid hs3
                have HB3 : Hid (Below w.heap.size w w3) := HBT.out.trans hb3
                clear C2 hs3 hb3 HST HBT d0
                obtain ⟨L3, hL3⟩ : ∃ y, closeL (L) (cx : Int) = y := ⟨_, rfl⟩
                rw [hL3] at HS3
                clear hL3
                obtain ⟨q, hq⟩ : ∃ y, L3.length = y := ⟨_, rfl⟩
                have hqN : q ≤ N := by have := HS3.out.ok.1.le; omega
                have CA := hid (fun W (hW : Below w3.heap.size w3 W) => slLive_any (HS3.out.below hW))
                have CB := hid (fun W (hW : Below w3.heap.size w3 W) => slFree_any (HS3.out.below hW))
                rw [hq] at CA CB
                clear hq
                have C3 := hid (CA.out w3 (Below.refl _ _))
                have hsum : (q : Int) + ((N : Int) - (q : Int)) = (N : Int) := by omega
                go_wp2_with fail
                refine C3.out.mono ?_
                rintro en w4 ⟨A4, c4, rfl, -, hb4⟩
                have HB4 : Hid (Below w3.heap.size w3 w4) := hb4
                have C4 := hid (CA.out w4 hb4)
                clear C3 hb4
                go_wp2_with fail
                refine C4.out.mono ?_
                rintro en w5 ⟨A5, c5, rfl, -, hb5⟩
                have HB5 : Hid (Below w3.heap.size w3 w5) := HB4.out.trans (hb5.mono HB4.out.size)
                have C5 := hid (CB.out w5 HB5.out)
                clear C4 hb5 HB4
                go_wp2_with fail
                refine C5.out.mono ?_
                rintro en w6 ⟨rfl, hb6⟩
                have HB6 : Hid (Below w3.heap.size w3 w6) := HB5.out.trans (hb6.mono HB5.out.size)
                clear C5 hb6 HB5
                go_wp2_with fail
                go_roundw
                case rel => exact ⟨i + 1, next, L3, 0, rfl, by go_num, by omega, by omega, by omega, by omega, by omega, HS3.out.below HB6.out, HB3.out.trans (HB6.out.mono HB3.out.size)⟩
                case measure => simp [intOf]; omega
              · have CW := hid (fun W => withinIn_any last 0 4096 W (by omega) (by omega))
                go_wp2_with fail
                refine (CW.out _).mono ?_
                rintro en wu ⟨rfl, rfl⟩
                clear CW
                have d0 := (HBT.out.cell (p := ⟨b, off + i, none⟩) hbl).trans HD0.out
                have C2 := hid (slClose_any (cx : Int) HST.out (WalkArith.wf_i64 (by omega)))
                go_wp2_with fail
                refine C2.out.mono ?_
                rintro en w3 ⟨rfl, hs3, hb3⟩
                have HS3 := hid hs3
                have HB3 : Hid (Below w.heap.size w w3) := HBT.out.trans hb3
                clear C2 hs3 hb3 HST HBT d0
                obtain ⟨L3, hL3⟩ : ∃ y, closeL (L) (cx : Int) = y := ⟨_, rfl⟩
                rw [hL3] at HS3
                clear hL3
                obtain ⟨q, hq⟩ : ∃ y, L3.length = y := ⟨_, rfl⟩
                have hqN : q ≤ N := by have := HS3.out.ok.1.le; omega
                have CA := hid (fun W (hW : Below w3.heap.size w3 W) => slLive_any (HS3.out.below hW))
                have CB := hid (fun W (hW : Below w3.heap.size w3 W) => slFree_any (HS3.out.below hW))
                rw [hq] at CA CB
                clear hq
                have C3 := hid (CA.out w3 (Below.refl _ _))
                have hsum : (q : Int) + ((N : Int) - (q : Int)) = (N : Int) := by omega
                go_wp2_with fail
                refine C3.out.mono ?_
                rintro en w4 ⟨A4, c4, rfl, -, hb4⟩
                have HB4 : Hid (Below w3.heap.size w3 w4) := hb4
                have C4 := hid (CA.out w4 hb4)
                clear C3 hb4
                go_wp2_with fail
                refine C4.out.mono ?_
                rintro en w5 ⟨A5, c5, rfl, -, hb5⟩
                have HB5 : Hid (Below w3.heap.size w3 w5) := HB4.out.trans (hb5.mono HB4.out.size)
                have C5 := hid (CB.out w5 HB5.out)
                clear C4 hb5 HB4
                go_wp2_with fail
                refine C5.out.mono ?_
                rintro en w6 ⟨rfl, hb6⟩
                have HB6 : Hid (Below w3.heap.size w3 w6) := HB5.out.trans (hb6.mono HB5.out.size)
                clear C5 hb6 HB5
                go_wp2_with fail
                go_roundw
                case rel => exact ⟨i + 1, next, L3, last, rfl, by go_num, by omega, by omega, by omega, by omega, by omega, HS3.out.below HB6.out, HB3.out.trans (HB6.out.mono HB3.out.size)⟩
                case measure => simp [intOf]; omega
            · rw [hfr] at HF0 HFN
              have hf : f = (kk : Int) := HF0.out
              subst hf
              have C1 := hid (slOpenYes_any HSQ.out (by omega) hfr)
              have CW := hid (fun W => withinLo_any last (next : Int) 4096 W hl2)
              clear HF0 HFN hfr
              go_wp2_with fail
              refine C1.out.mono ?_
              rintro en wt ⟨rfl, hst, hb⟩
              have HST := hid hst
              have HBT : Hid (Below w.heap.size w wt) := hid (HBQ.out.trans hb)
              clear C1 hst hb HSQ HBQ
              go_wp2_with fail
              refine (CW.out _).mono ?_
              rintro en wu ⟨rfl, rfl⟩
              clear CW
              have d0 := (HBT.out.cell (p := ⟨b, off + i, none⟩) hbl).trans HD0.out
              have C2 := hid (slClose_any (cx : Int) HST.out (WalkArith.wf_i64 (by omega)))
              go_wp2_with fail
              refine C2.out.mono ?_
              rintro en w3 ⟨rfl, hs3, hb3⟩
              have HS3 := hid hs3
              have HB3 : Hid (Below w.heap.size w w3) := HBT.out.trans hb3
              clear C2 hs3 hb3 HST HBT d0
              obtain ⟨L3, hL3⟩ : ∃ y, closeL ((L ++ [(next, kk)])) (cx : Int) = y := ⟨_, rfl⟩
              rw [hL3] at HS3
              clear hL3
              obtain ⟨q, hq⟩ : ∃ y, L3.length = y := ⟨_, rfl⟩
              have hqN : q ≤ N := by have := HS3.out.ok.1.le; omega
              have CA := hid (fun W (hW : Below w3.heap.size w3 W) => slLive_any (HS3.out.below hW))
              have CB := hid (fun W (hW : Below w3.heap.size w3 W) => slFree_any (HS3.out.below hW))
              rw [hq] at CA CB
              clear hq
              have C3 := hid (CA.out w3 (Below.refl _ _))
              have hsum : (q : Int) + ((N : Int) - (q : Int)) = (N : Int) := by omega
              go_wp2_with fail
              refine C3.out.mono ?_
              rintro en w4 ⟨A4, c4, rfl, -, hb4⟩
              have HB4 : Hid (Below w3.heap.size w3 w4) := hb4
              have C4 := hid (CA.out w4 hb4)
              clear C3 hb4
              go_wp2_with fail
              refine C4.out.mono ?_
              rintro en w5 ⟨A5, c5, rfl, -, hb5⟩
              have HB5 : Hid (Below w3.heap.size w3 w5) := HB4.out.trans (hb5.mono HB4.out.size)
              have C5 := hid (CB.out w5 HB5.out)
              clear C4 hb5 HB4
              go_wp2_with fail
              refine C5.out.mono ?_
              rintro en w6 ⟨rfl, hb6⟩
              have HB6 : Hid (Below w3.heap.size w3 w6) := HB5.out.trans (hb6.mono HB5.out.size)
              clear C5 hb6 HB5
              go_wp2_with fail
              go_roundw
              case rel => exact ⟨i + 1, (next + 1), L3, (next : Int), rfl, by go_num, by omega, by omega, by omega, by omega, by omega, HS3.out.below HB6.out, HB3.out.trans (HB6.out.mono HB3.out.size)⟩
              case measure => simp [intOf]; omega
          · have hz : z = (k : Int) := by have := HZ.out; omega
            subst hz
            have hkl : k < (whoL N L).length := by omega
            have hst := lowF_step (whoL N L) k hkl
            have hw2 := whoL_get N L k (by omega)
            have hzk : whoZ N L (k : Int) = whoAt L k := by rw [whoZ, if_pos (by omega), Int.toNat_natCast]
            have CWH := hid (slWho_any (k : Int) HSQ.out)
            rw [hzk] at CWH
            rw [hw2] at hst
            have HF2 := HF
            clear hw2 hzk HZ HF hkl
            by_cases hwk : whoAt L k = -1
            · rw [if_pos hwk] at hst
              rw [hwk] at CWH
              have HST := hid hst
              clear hst hwk
              go_wp2_with fail
              refine CWH.out.mono ?_
              rintro en wt ⟨rfl, rfl⟩
              clear CWH
              go_wp2_with fail
              go_roundw
              case rel => exact ⟨(k : Int) - 1, (k : Int), k, by first | rfl | go_num, rfl, rfl, by omega, HST.out.symm, HSQ.out, HBQ.out⟩
              case measure => first | (simp [intOf]; done) | (simp [intOf]; omega)
            · rw [if_neg hwk] at hst
              rw [decide_eq_true hwk] at CWH
              have HST := hid hst
              obtain ⟨wv, hwv⟩ : ∃ y, whoV (whoAt L k) = y := ⟨_, rfl⟩
              rw [hwv] at CWH
              clear hst hwk hwv
              go_wp2_with fail
              refine CWH.out.mono ?_
              rintro en wt ⟨rfl, rfl⟩
              clear CWH
              go_wp2_with fail
              go_roundw
              case rel => exact ⟨(k : Int) - 1, f, k, by first | rfl | go_num, rfl, rfl, by omega, HF2.out.trans HST.out.symm, HSQ.out, HBQ.out⟩
              case measure => first | (simp [intOf]; done) | (simp [intOf]; omega)
      · skip
        go_wp2_with fail
        refine (CLV.out _).mono ?_
        rintro en w2 ⟨rfl, hb⟩
        go_wp2_with fail
        go_ret
        exact ⟨rfl, HB.out.trans (hb.mono HB.out.size)⟩
    · skip
      go_wp2_with fail
      refine (CLV.out _).mono ?_
      rintro en w2 ⟨rfl, hb⟩
      go_wp2_with fail
      go_ret
      exact ⟨rfl, HB.out.trans (hb.mono HB.out.size)⟩
end Go.Proofs.Ytdbiodofofnpgaa
namespace Go.Proofs.Ytdbiodofofnpgaa
open Go.ChangeShapes Go.WideShapes Go.ChangeAt Go.RowKit Go.WideElems Go.Deep
open Go.ChangeMaps (open_string shut_string)

set_option maxRecDepth 100000 in
theorem slotsLeast_lifted (os : Os) (started : os.Started) (H : Type) (enc : TypeId × Value → H) :
    ReturnsInHanded {} Try.checked os 7 .any (Rows.slotsLeastSpec.pre6 enc Try.prog Try.f7 [] false) (Rows.slotsLeastSpec.post enc Try.prog Try.f7 false true false false) := by
  refine law_lifted 7 Try.f7 Rows.slotsLeastSpec os started H enc Try.func7 (by kernel_rfl) (by kernel_rfl) (by kernel_rfl) rfl (fun ds h => ?_)
    (ChangeSpec.witness6 (enc := enc) (C := Try.checked) false ⟨#[], #[.int .u8 0, .slice none 0 0], []⟩ 8 (by kernel_rfl) (by kernel_rfl) (by kernel_rfl) (by kernel_rfl)) ?_
  · have hn : ds.length = 2 := h
    match ds, hn with
    | [d0, d1], _ => rfl
  · intro W args ds p base hval hA _ _
    rw [show Try.f7.params.toList = [5, 76] from by rw [Try.params7]] at hval hA
    obtain ⟨v0, _, d0, _, p0, _, rfl, rfl, rfl, h0, hA⟩ := all_cons hA
    obtain ⟨v1, _, d1, _, p1, _, rfl, rfl, rfl, h1, hA⟩ := all_cons hA
    obtain rfl := all_nil hA
    obtain ⟨x0, rfl, rfl, rfl, hw0⟩ := open_int Try.underlying5 (hval 0 _ v0 rfl rfl) h0
    obtain ⟨A1, n1, c1, l1, rfl, hl1, hn1, hr1, hs1⟩ := open_u8s (hval 1 _ v1 rfl rfl) h1
    exact slotsLeast_any A1 n1 c1 x0 l1 W hw0 hl1 hn1 hr1 hs1

theorem slotsLeast_holds : Rows.SlotsLeastSaid :=
  OpenClaim.holds_of_wide 7 Try.f7 rfl rfl rfl rfl rfl rfl rfl ⟨rfl, rfl, rfl, rfl, rfl⟩ rfl rfl rfl rfl rfl (by kernel_rfl) Try.func7 (by kernel_rfl)
    (of_decide_eq_true (by kernel_rfl)) (by unfold Func.isWrapper; first | (rw [if_pos (by decide +kernel)]; kernel_rfl) | (rw [if_neg (by decide +kernel)]; exact ⟨rfl, rfl⟩))
    (fun os started H enc _ => slotsLeast_lifted os started H enc)
#print axioms slotsLeast_holds
end Go.Proofs.Ytdbiodofofnpgaa
