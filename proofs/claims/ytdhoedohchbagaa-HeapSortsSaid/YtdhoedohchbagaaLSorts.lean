/- The law HeapSorts: its walk. -/
import Derived.Test.YtdhoedohchbagaaHs
namespace Go.Proofs.Ytdhoedohchbagaa
open Go.RowKit

theorem setR_any (A : Option Addr) (n c : Nat) (l : List Ent) (most k : Nat) (at_ : Int) (w : World) (hl : l.length = n) (hn : n ≤ 100000) (hr : Rd w A (entCells l)) (hk : k < most) :
    Calls Try.prog 27 #[.slice A n c, .int .i64 (most : Int), .int .i64 (k : Int), .int .i64 at_] w fun e w' => ∃ v, e = .returned (.tuple #[v, .bool true]) ∧ w'.ownsRow w.heap.size 38 2 v (setE l k at_).length (entCells (setE l k at_)) ∧ Below w.heap.size w w' := by
  by_cases ha : at_ = neverT
  · have hat : (at_ == 9223372036854775807) = true := by rw [neverB]; simp [ha]
    unfold setE; rw [if_pos ha]
    exact setR_never A n c l most k at_ w hl hn hr hk hat
  · have hat : (at_ == 9223372036854775807) = false := by rw [neverB]; simp [ha]
    unfold setE; rw [if_neg ha]
    exact setR_some A n c l most k at_ w hl hn hr hk hat

set_option maxRecDepth 20000 in
set_option maxHeartbeats 2000000 in
theorem heapSorts_small (A : Option Addr) (n c : Nat) (ats : List Int) (w : World) (hl : ats.length = n) (hn : n ≤ 9223372036854775807) (hr : Rd w A (intCells ats)) (hN : n ≤ 60) :
    Calls Try.prog 5 #[.slice A n c] w fun e w' => e = .returned (.bool true) ∧ Below w.heap.size w w' := by
  have HL := hid hl; have HR := hid hr
  clear hl hr
  go_enter Try.func5, Try.ntmps5
  go_wp2_with fail
  refine (hNew_any 16 (by omega) (by omega) _).mono ?_
  rintro e w1 ⟨g, gw, rfl, hi1, hb1, hg, hgw⟩
  have F1 : Hid (∀ k, HpF g gw (.slice none 0 0) k → w.heap.size ≤ k) := by
    rintro k (h | h | h)
    · omega
    · omega
    · simp [Value.ownBlock] at h
  have hs1 := hb1.size
  have HI1 := hid (hi1.below ((Below.refl _ _).alloc (Nat.le_refl _) (.cells #[] 38)))
  have HO1 : Hid ((w1.alloc (.cells #[] 38)).ownsRow w.heap.size 38 2 (.slice (some ⟨w1.heap.size, 0, none⟩) 0 0) 0 []) := World.ownsRow_made _ _ _ hs1 (by simp [maxLen]) (by simp)
  have HB1 := hid (hb1.alloc hs1 (.cells #[] 38))
  have HLF1 : Hid (∀ k, (Value.slice (some ⟨w1.heap.size, 0, none⟩) 0 0).ownBlock = some k → ¬ HpF g gw (.slice none 0 0) k) := by
    intro k hk hf
    simp only [Value.ownBlock, Option.some.injEq] at hk
    have := hi1.lt k hf; omega
  clear hi1 hb1
  go_wp2_with fail
  go_loopw [4, 5] (fun lv iv wr => ∃ (k : Nat) (v : Value) (l : List Ent) (Al : Option Addr) (cl : Nat), k ≤ n ∧ lv = .slice Al l.length cl ∧ iv = .int .i64 (k : Int) ∧ HpI wr g gw 16 v l ∧ wr.ownsRow w.heap.size 38 2 (.slice Al l.length cl) l.length (entCells l) ∧ Below w.heap.size w wr ∧
      Hid (∀ k, HpF g gw v k → w.heap.size ≤ k) ∧ Hid (∀ k, (Value.slice Al l.length cl).ownBlock = some k → ¬ HpF g gw v k)) (fun _ iv _ => 100 - (intOf iv).toNat)
  case atStart => exact ⟨0, _, [], _, _, by omega, rfl, rfl, HI1.out, HO1.out, HB1.out, F1, HLF1⟩
  case round =>
    obtain ⟨k, v, l, Al, cl, hk, rfl, rfl, hi, ho, hb, HF, HLF⟩ := hrel
    have HI := hid hi
    have HO := hid ho
    have HB := hid hb
    have hl16 : l.length ≤ 16 := by obtain ⟨_, _, _, _, _, hnn, _, hnm⟩ := hi; omega
    clear hi hb ho HI1 HB1 HO1 F1 HLF1
    by_cases hkK : k < n
    · have h32 : k < 60 := by omega
      obtain ⟨b, off, rfl, hbl, hc⟩ := HR.out.at (by rw [intCells_length, HL.out]; omega)
      have hkl : k < ats.length := by rw [HL.out]; omega
      have cw := hc k _ (intCells_get ats k hkl)
      have hkn : k < n := by omega
      obtain ⟨a, ha⟩ : ∃ a, ats[k]'hkl = a := ⟨_, rfl⟩
      rw [ha] at cw
      obtain ⟨q, hq⟩ : ∃ q, k % 16 = q := ⟨_, rfl⟩
      have hq16 : q < 16 := by omega
      have hmod : (k : Int) % 16 = (q : Int) := by omega
      have c0 := (HB.out.cell (p := ⟨b, off + k, none⟩) hbl).trans cw
      have HC := hid (setH_any g gw 16 v l q a wr HI.out hq16)
      clear hc ha hkl hq
      go_wp2_with fail
      refine HC.out.mono ?_
      rintro e w2 ⟨rfl, hp⟩
      obtain ⟨b2, -⟩ := hp.lower HB.out.size HF.out
      obtain ⟨v2, hi2, hk2, hv2⟩ := hp
      have HI2 := hid hi2
      have HB2 := hid (HB.out.trans b2)
      have HO2 := hid (hk2.own HO.out HLF.out)
      have HF2 : Hid (∀ k, HpF g gw v2 k → w.heap.size ≤ k) := by
        rintro k (h | h | h)
        · exact HF.out k (.inl h)
        · exact HF.out k (.inr (.inl h))
        · rcases hv2 k h with h | h
          · exact HF.out k (.inr (.inr h))
          · have := HB.out.size; omega
      have c1 := (HB2.out.cell (p := ⟨b, off + k, none⟩) hbl).trans cw
      have HS := hid (setR_any Al l.length cl l 16 q a w2 rfl (by omega) (Rd_of_own HO2.out) hq16)
      clear b2 hi2 hk2 hv2 HC c0 cw
      go_wp2_with fail
      refine HS.out.mono ?_
      rintro e w3 ⟨v3, rfl, ho3, hb3⟩
      obtain ⟨A3, c3, rfl, -⟩ := own_shape ho3
      have HI3 := hid (HI2.out.below hb3)
      have HO3 := hid (own_base ho3 HB2.out.size)
      have HB3 := hid (HB2.out.trans (hb3.mono HB2.out.size))
      have HLF3 : Hid (∀ k, (Value.slice A3 (setE l q a).length c3).ownBlock = some k → ¬ HpF g gw v2 k) := by
        intro k hk hf
        have h1 := (ho3.lt k hk).1
        have h2 := HI2.out.lt k hf
        omega
      clear ho3 hb3 HS
      go_wp2_with fail
      go_roundw
      case rel => exact ⟨k + 1, v2, setE l q a, A3, c3, by omega, rfl, by go_num, HI3.out, HO3.out, HB3.out, HF2, HLF3⟩
      case measure => simp [intOf]; omega
    · obtain rfl : n = k := by omega
      have hsorted : SortedE l := by obtain ⟨_, _, _, _, hh, _⟩ := HI.out; exact hh.sorted
      have HSO := hid hsorted
      obtain ⟨wo, hwo⟩ : ∃ wo : World, wo = wr := ⟨wr, rfl⟩
      subst hwo
      have hsz := HB.out.size
      have HI6 := hid (HI.out.below ((Below.refl _ _).alloc (Nat.le_refl _) (.cells #[] 38)))
      have HO6 : Hid ((wo.alloc (.cells #[] 38)).ownsRow w.heap.size 38 2 (.slice (some ⟨wo.heap.size, 0, none⟩) 0 0) 0 []) := World.ownsRow_made _ _ _ hsz (by simp [maxLen]) (by simp)
      have HL6 := hid (HO.out.alloc (.cells #[] 38))
      have HB6 := hid (HB.out.alloc hsz (.cells #[] 38))
      have HOF6 : Hid (∀ q, (Value.slice (some ⟨wo.heap.size, 0, none⟩) 0 0).ownBlock = some q → ¬ HpF g gw v q ∧ (Value.slice Al l.length cl).ownBlock ≠ some q) := by
        intro q hq
        simp only [Value.ownBlock, Option.some.injEq] at hq
        subst hq
        exact ⟨fun hf => absurd (HI.out.lt _ hf) (Nat.lt_irrefl _), fun hh => absurd (HO.out.lt _ hh).2 (Nat.lt_irrefl _)⟩
      clear hsorted
      go_wp2_with fail
      go_loopw [6, 7] (fun ov iv wr => ∃ (done rest : List Ent) (v' : Value) (A : Option Addr) (c : Nat), Hid (l = done ++ rest) ∧ ov = .slice A done.length c ∧ iv = .int .i64 (done.length : Int) ∧ HpI wr g gw 16 v' rest ∧
          wr.ownsRow w.heap.size 38 2 (.slice A done.length c) done.length (entCells done) ∧ wr.ownsRow w.heap.size 38 2 (.slice Al l.length cl) l.length (entCells l) ∧ Below w.heap.size w wr ∧
          Hid (∀ q, HpF g gw v' q → w.heap.size ≤ q) ∧ Hid (∀ q, (Value.slice A done.length c).ownBlock = some q → ¬ HpF g gw v' q ∧ (Value.slice Al l.length cl).ownBlock ≠ some q) ∧ Hid (∀ q, (Value.slice Al l.length cl).ownBlock = some q → ¬ HpF g gw v' q)) (fun _ iv _ => 100 - (intOf iv).toNat)
      case atStart => exact ⟨[], l, v, some ⟨wo.heap.size, 0, none⟩, 0, rfl, rfl, rfl, HI6.out, HO6.out, HL6.out, HB6.out, HF, HOF6, HLF⟩
      case round =>
        obtain ⟨done, rest, v', A', c', HSP, rfl, rfl, hi, ho, hlr, hb, HFv, HOF, HLFv⟩ := hrel
        have HHI := hid hi; have HHO := hid ho; have HHL := hid hlr; have HHB := hid hb
        have hdl : done.length + rest.length = l.length := by rw [HSP.out]; simp
        have hd17 : done.length < 17 := by omega
        clear hi ho hlr hb HI6 HO6 HL6 HB6 HOF6
        cases rest with
        | nil =>
          have HP := hid (pop_none g gw 16 v' wr HHI.out)
          have hdone : done = l := by rw [HSP.out]; simp
          go_wp2_with fail
          refine HP.out.mono ?_
          rintro e w2 ⟨rfl, hb2⟩
          have B2 := hid (hb2.alloc hb2.size (.cells #[.int .i64 0, .int .i64 0] 38))
          have HI2 := hid (HHI.out.below B2.out)
          have HBB := hid (HHB.out.trans (B2.out.mono HHB.out.size))
          have HS := hid (sameE_any A' Al done.length l.length c' cl done l _ rfl rfl (by omega) (by omega) (Rd_of_own (own_below HHO.out B2.out)) (Rd_of_own (own_below HHL.out B2.out)))
          rw [show sameE done l = true from decide_eq_true hdone] at HS
          clear hb2 HP hdone
          go_wp2_with fail
          refine HS.out.mono ?_
          rintro e w4 ⟨rfl, hb4⟩
          have HI4 := hid (HI2.out.below hb4)
          have HB4 := hid (HBB.out.trans (hb4.mono HBB.out.size))
          have HN := hid (len_any g gw 16 v' [] w4 HI4.out)
          clear hb4 HS
          go_wp2_with fail
          refine HN.out.mono ?_
          rintro e w5 ⟨rfl, rfl⟩
          go_wp2_with fail
          refine (lives5_any _).mono ?_
          rintro e w6 ⟨rfl, hb6⟩
          have HB6 := hid (HB4.out.trans (hb6.mono HB4.out.size))
          clear hb6
          go_wp2_with fail
          go_ret
          exact ⟨rfl, HB6.out⟩
        | cons x r =>
          have HP := hid (pop_some g gw 16 v' x r wr HHI.out)
          have hlast : ∀ y d2, done = d2 ++ [y] → y.lt x := by
            intro y d2 h
            have h1 := HSO.out
            rw [HSP.out, h, List.append_assoc] at h1
            have h2 := (List.pairwise_append.1 h1).2.1
            exact (List.pairwise_cons.1 h2).1 x (by simp)
          have HLAST := hid hlast
          clear hlast
          go_wp2_with fail
          refine HP.out.mono ?_
          rintro e w2 ⟨rfl, hp⟩
          obtain ⟨b2, -⟩ := hp.lower HHB.out.size HFv.out
          obtain ⟨v2, hi2, hk2, hv2⟩ := hp
          have hs2 := hk2.size
          have KA : Below w2.heap.size w2 (w2.alloc (.cells #[.int .i64 x.t, .int .i64 (x.id : Int)] 38)) := (Below.refl _ _).alloc (Nat.le_refl _) _
          obtain ⟨w3, hw3⟩ : ∃ q, w2.alloc (.cells #[.int .i64 x.t, .int .i64 (x.id : Int)] 38) = q := ⟨_, rfl⟩
          have e0 : w3.cell? ⟨w2.heap.size, 0, none⟩ = some (.int .i64 x.t) := by rw [← hw3]; exact (Blk.new w2 _ _).cell 0
          have e1 : w3.cell? ⟨w2.heap.size, 1, none⟩ = some (.int .i64 (x.id : Int)) := by rw [← hw3]; exact (Blk.new w2 _ _).cell 1
          have hlt3 : w2.heap.size < w3.heap.size := by rw [← hw3]; simp
          rw [hw3] at KA
          have HI3 := hid (hi2.below KA)
          have HO3 := hid (own_below (hk2.own HHO.out (fun q hq => (HOF.out q hq).1)) KA)
          have HL3 := hid (own_below (hk2.own HHL.out HLFv.out) KA)
          have B3 := hid ((HHB.out.trans b2).trans (KA.mono (by have := (HHB.out.trans b2).size; omega)))
          have HF2 : Hid (∀ q, HpF g gw v2 q → w.heap.size ≤ q) := by
            rintro k (h | h | h)
            · exact HFv.out k (.inl h)
            · exact HFv.out k (.inr (.inl h))
            · rcases hv2 k h with h | h
              · exact HFv.out k (.inr (.inr h))
              · have := HHB.out.size; omega
          have HOF2 : Hid (∀ q, (Value.slice A' done.length c').ownBlock = some q → ¬ HpF g gw v2 q) := by
            rintro q hq (h | h | h)
            · exact (HOF.out q hq).1 (.inl h)
            · exact (HOF.out q hq).1 (.inr (.inl h))
            · rcases hv2 q h with h | h
              · exact (HOF.out q hq).1 (.inr (.inr h))
              · have := (HHO.out.lt q hq).2; omega
          have HLF2 : Hid (∀ q, (Value.slice Al l.length cl).ownBlock = some q → ¬ HpF g gw v2 q) := by
            rintro q hq (h | h | h)
            · exact HLFv.out q hq (.inl h)
            · exact HLFv.out q hq (.inr (.inl h))
            · rcases hv2 q h with h | h
              · exact HLFv.out q hq (.inr (.inr h))
              · have := (HHL.out.lt q hq).2; omega
          have HOL : Hid (∀ q, (Value.slice A' done.length c').ownBlock = some q → (Value.slice Al l.length cl).ownBlock ≠ some q) := fun q hq => (HOF.out q hq).2
          have hd16 : done.length ≤ 16 := by simp at hdl; omega
          clear hi2 hk2 hv2 b2 HP KA
          go_wp2_with fail
          clear hw3
          rcases Nat.eq_zero_or_pos done.length with h0 | h0
          · have h0d : decide (0 < done.length) = false := by simp [h0]
            have h0i : decide ((0 : Int) < (done.length : Int)) = false := by simp [h0]
            clear h0
            go_wp2_with fail
            go_quiet (fail)
            obtain ⟨w4, hw4⟩ : ∃ q, w3.drewN nq = q := ⟨_, rfl⟩
            have hb4 : Below w3.heap.size w3 w4 := by rw [← hw4]; exact drewN_below _ _
            rw [hw4]
            clear hw4
            have f0 := (hb4.cell (p := ⟨w2.heap.size, 0, none⟩) (by omega)).trans e0
            have f1 := (hb4.cell (p := ⟨w2.heap.size, 1, none⟩) (by omega)).trans e1
            have HO4 := hid (own_below HO3.out hb4)
            have HI4 := hid (HI3.out.below hb4)
            have HL4 := hid (own_below HL3.out hb4)
            have B4 := hid (B3.out.trans (hb4.mono (by have := B3.out.size; omega)))
            have hlt4 : w2.heap.size < w4.heap.size := by have := hb4.size; omega
            have hws4 : w.heap.size ≤ w4.heap.size := by have := B4.out.size; omega
            clear hb4 e0 e1
            go_wp2_with (at_builtin; refine wpList_append1K _ rfl _ _ 33 rfl w.heap.size 38 _ 2 16 Try.underlying33 Try.infoEntry rfl (by decide) _ _ _ rfl HO4.out 1 x.cells (by go_simp) rfl rfl ?_ (by decide) hws4 ?_)
            · omega
            intro ge c5 w5 hown5 hk5 hf5
            have HI5 := hid (HI4.out.keep hk5 (fun q hq h => HOF2.out q h hq))
            have HL5 := hid (hk5.own HL4.out (fun q hq h => (HOL.out q h) hq))
            have B5 := hid (B4.out.trans (hk5.below (B := w.heap.size) hws4 (fun q h => (HO4.out.lt q h).1)))
            have HGE : Hid (¬ HpF g gw v2 ge ∧ (Value.slice Al l.length cl).ownBlock ≠ some ge) := by
              rcases hf5 with h | h
              · exact ⟨HOF2.out ge h, fun hh => HOL.out ge h hh⟩
              · exact ⟨fun hf => by have := HI4.out.lt ge hf; omega, fun hh => by have := (HL4.out.lt ge hh).2; omega⟩
            have HO5 : Hid (w5.ownsRow w.heap.size 38 2 (.slice (some ⟨ge, 0, none⟩) (done ++ [x]).length c5) (done ++ [x]).length (entCells (done ++ [x]))) := by
              rw [Hid, entCells_append, List.length_append]; simpa [entCells] using hown5
            have HSP2 : Hid (l = (done ++ [x]) ++ r) := by rw [Hid, HSP.out]; simp
            have HFF : Hid (∀ q, HpF g gw v2 q → w.heap.size ≤ q) := HF2
            clear hown5 hk5 hf5 HI4 HL4 HO4 f0 f1 HI3 HL3 HO3
            go_wp2_with fail
            go_roundw
            case rel => exact ⟨done ++ [x], r, v2, some ⟨ge, 0, none⟩, c5, HSP2, by simp, by simp, HI5.out, HO5.out, HL5.out, B5.out, HFF, fun q hq => (by simp only [Value.ownBlock, Option.some.injEq] at hq; subst hq; exact ⟨HGE.out.1, HGE.out.2⟩), HLF2⟩
            case measure => simp [intOf]; omega
          · obtain ⟨d2, y, hdy⟩ : ∃ d2 y, done = d2 ++ [y] := ⟨done.dropLast, done.getLast (by intro h; rw [h] at h0; simp at h0), (List.dropLast_concat_getLast _).symm⟩
            have hyx := HLAST.out y d2 hdy
            have hdl2 : done.length = d2.length + 1 := by rw [hdy]; simp
            have heg : eg done d2.length = y := by rw [hdy]; exact eg_snoc
            obtain ⟨p, hp⟩ : ∃ p, d2.length = p := ⟨_, rfl⟩
            rw [hp] at hdl2 heg
            have hrd9 := Rd_of_own HO3.out
            obtain ⟨bo, oo, hAo, hbo, hco⟩ := hrd9.at (by rw [entCells_length]; omega)
            obtain ⟨y0, y1⟩ := rd_ent hco p (by omega)
            rw [heg] at y0 y1
            have hpd : (done.length : Int) - 1 = (p : Int) := by omega
            have hpn : p < done.length := by omega
            have h0i : decide ((0 : Int) < (done.length : Int)) = true := by simp; omega
            subst hAo
            clear hdy hp heg hrd9 hco hdl2
            by_cases hty : y.t = x.t
            · have hid3 : y.id < x.id := by unfold Ent.lt at hyx; omega
              have g1 : decide (x.t < y.t) = false := by simp; omega
              have g2 : (y.t == x.t) = true := by simp [hty]
              have g3 : decide (x.id ≤ y.id) = false := by simp; omega
              have g4 : decide ((x.id : Int) ≤ (y.id : Int)) = false := by simp; omega
              clear hyx hty hid3
              go_wp2_with fail
              go_quiet (fail)
              obtain ⟨w4, hw4⟩ : ∃ q, w3.drewN nq = q := ⟨_, rfl⟩
              have hb4 : Below w3.heap.size w3 w4 := by rw [← hw4]; exact drewN_below _ _
              rw [hw4]
              clear hw4
              have f0 := (hb4.cell (p := ⟨w2.heap.size, 0, none⟩) (by omega)).trans e0
              have f1 := (hb4.cell (p := ⟨w2.heap.size, 1, none⟩) (by omega)).trans e1
              have HO4 := hid (own_below HO3.out hb4)
              have HI4 := hid (HI3.out.below hb4)
              have HL4 := hid (own_below HL3.out hb4)
              have B4 := hid (B3.out.trans (hb4.mono (by have := B3.out.size; omega)))
              have hlt4 : w2.heap.size < w4.heap.size := by have := hb4.size; omega
              have hws4 : w.heap.size ≤ w4.heap.size := by have := B4.out.size; omega
              clear hb4 e0 e1
              go_wp2_with (at_builtin; refine wpList_append1K _ rfl _ _ 33 rfl w.heap.size 38 _ 2 16 Try.underlying33 Try.infoEntry rfl (by decide) _ _ _ rfl HO4.out 1 x.cells (by go_simp) rfl rfl ?_ (by decide) hws4 ?_)
              · omega
              intro ge c5 w5 hown5 hk5 hf5
              have HI5 := hid (HI4.out.keep hk5 (fun q hq h => HOF2.out q h hq))
              have HL5 := hid (hk5.own HL4.out (fun q hq h => (HOL.out q h) hq))
              have B5 := hid (B4.out.trans (hk5.below (B := w.heap.size) hws4 (fun q h => (HO4.out.lt q h).1)))
              have HGE : Hid (¬ HpF g gw v2 ge ∧ (Value.slice Al l.length cl).ownBlock ≠ some ge) := by
                rcases hf5 with h | h
                · exact ⟨HOF2.out ge h, fun hh => HOL.out ge h hh⟩
                · exact ⟨fun hf => by have := HI4.out.lt ge hf; omega, fun hh => by have := (HL4.out.lt ge hh).2; omega⟩
              have HO5 : Hid (w5.ownsRow w.heap.size 38 2 (.slice (some ⟨ge, 0, none⟩) (done ++ [x]).length c5) (done ++ [x]).length (entCells (done ++ [x]))) := by
                rw [Hid, entCells_append, List.length_append]; simpa [entCells] using hown5
              have HSP2 : Hid (l = (done ++ [x]) ++ r) := by rw [Hid, HSP.out]; simp
              have HFF : Hid (∀ q, HpF g gw v2 q → w.heap.size ≤ q) := HF2
              clear hown5 hk5 hf5 HI4 HL4 HO4 f0 f1 HI3 HL3 HO3
              go_wp2_with fail
              go_roundw
              case rel => exact ⟨done ++ [x], r, v2, some ⟨ge, 0, none⟩, c5, HSP2, by simp, by simp, HI5.out, HO5.out, HL5.out, B5.out, HFF, fun q hq => (by simp only [Value.ownBlock, Option.some.injEq] at hq; subst hq; exact ⟨HGE.out.1, HGE.out.2⟩), HLF2⟩
              case measure => simp [intOf]; omega
            · have g1 : decide (x.t < y.t) = false := by unfold Ent.lt at hyx; simp; omega
              have g2 : (y.t == x.t) = false := by simp [hty]
              clear hyx hty
              go_wp2_with fail
              go_quiet (fail)
              obtain ⟨w4, hw4⟩ : ∃ q, w3.drewN nq = q := ⟨_, rfl⟩
              have hb4 : Below w3.heap.size w3 w4 := by rw [← hw4]; exact drewN_below _ _
              rw [hw4]
              clear hw4
              have f0 := (hb4.cell (p := ⟨w2.heap.size, 0, none⟩) (by omega)).trans e0
              have f1 := (hb4.cell (p := ⟨w2.heap.size, 1, none⟩) (by omega)).trans e1
              have HO4 := hid (own_below HO3.out hb4)
              have HI4 := hid (HI3.out.below hb4)
              have HL4 := hid (own_below HL3.out hb4)
              have B4 := hid (B3.out.trans (hb4.mono (by have := B3.out.size; omega)))
              have hlt4 : w2.heap.size < w4.heap.size := by have := hb4.size; omega
              have hws4 : w.heap.size ≤ w4.heap.size := by have := B4.out.size; omega
              clear hb4 e0 e1
              go_wp2_with (at_builtin; refine wpList_append1K _ rfl _ _ 33 rfl w.heap.size 38 _ 2 16 Try.underlying33 Try.infoEntry rfl (by decide) _ _ _ rfl HO4.out 1 x.cells (by go_simp) rfl rfl ?_ (by decide) hws4 ?_)
              · omega
              intro ge c5 w5 hown5 hk5 hf5
              have HI5 := hid (HI4.out.keep hk5 (fun q hq h => HOF2.out q h hq))
              have HL5 := hid (hk5.own HL4.out (fun q hq h => (HOL.out q h) hq))
              have B5 := hid (B4.out.trans (hk5.below (B := w.heap.size) hws4 (fun q h => (HO4.out.lt q h).1)))
              have HGE : Hid (¬ HpF g gw v2 ge ∧ (Value.slice Al l.length cl).ownBlock ≠ some ge) := by
                rcases hf5 with h | h
                · exact ⟨HOF2.out ge h, fun hh => HOL.out ge h hh⟩
                · exact ⟨fun hf => by have := HI4.out.lt ge hf; omega, fun hh => by have := (HL4.out.lt ge hh).2; omega⟩
              have HO5 : Hid (w5.ownsRow w.heap.size 38 2 (.slice (some ⟨ge, 0, none⟩) (done ++ [x]).length c5) (done ++ [x]).length (entCells (done ++ [x]))) := by
                rw [Hid, entCells_append, List.length_append]; simpa [entCells] using hown5
              have HSP2 : Hid (l = (done ++ [x]) ++ r) := by rw [Hid, HSP.out]; simp
              have HFF : Hid (∀ q, HpF g gw v2 q → w.heap.size ≤ q) := HF2
              clear hown5 hk5 hf5 HI4 HL4 HO4 f0 f1 HI3 HL3 HO3
              go_wp2_with fail
              go_roundw
              case rel => exact ⟨done ++ [x], r, v2, some ⟨ge, 0, none⟩, c5, HSP2, by simp, by simp, HI5.out, HO5.out, HL5.out, B5.out, HFF, fun q hq => (by simp only [Value.ownBlock, Option.some.injEq] at hq; subst hq; exact ⟨HGE.out.1, HGE.out.2⟩), HLF2⟩
              case measure => simp [intOf]; omega

set_option maxRecDepth 20000 in
set_option maxHeartbeats 2000000 in
theorem heapSorts_big (A : Option Addr) (n c : Nat) (ats : List Int) (w : World) (hl : ats.length = n) (hn : n ≤ 9223372036854775807) (hr : Rd w A (intCells ats)) (hN : 60 < n) :
    Calls Try.prog 5 #[.slice A n c] w fun e w' => e = .returned (.bool true) ∧ Below w.heap.size w w' := by
  have HL := hid hl; have HR := hid hr
  clear hl hr
  go_enter Try.func5, Try.ntmps5
  go_wp2_with fail
  refine (hNew_any 16 (by omega) (by omega) _).mono ?_
  rintro e w1 ⟨g, gw, rfl, hi1, hb1, hg, hgw⟩
  have F1 : Hid (∀ k, HpF g gw (.slice none 0 0) k → w.heap.size ≤ k) := by
    rintro k (h | h | h)
    · omega
    · omega
    · simp [Value.ownBlock] at h
  have hs1 := hb1.size
  have HI1 := hid (hi1.below ((Below.refl _ _).alloc (Nat.le_refl _) (.cells #[] 38)))
  have HO1 : Hid ((w1.alloc (.cells #[] 38)).ownsRow w.heap.size 38 2 (.slice (some ⟨w1.heap.size, 0, none⟩) 0 0) 0 []) := World.ownsRow_made _ _ _ hs1 (by simp [maxLen]) (by simp)
  have HB1 := hid (hb1.alloc hs1 (.cells #[] 38))
  have HLF1 : Hid (∀ k, (Value.slice (some ⟨w1.heap.size, 0, none⟩) 0 0).ownBlock = some k → ¬ HpF g gw (.slice none 0 0) k) := by
    intro k hk hf
    simp only [Value.ownBlock, Option.some.injEq] at hk
    have := hi1.lt k hf; omega
  clear hi1 hb1
  go_wp2_with fail
  go_loopw [4, 5] (fun lv iv wr => ∃ (k : Nat) (v : Value) (l : List Ent) (Al : Option Addr) (cl : Nat), k ≤ 60 ∧ lv = .slice Al l.length cl ∧ iv = .int .i64 (k : Int) ∧ HpI wr g gw 16 v l ∧ wr.ownsRow w.heap.size 38 2 (.slice Al l.length cl) l.length (entCells l) ∧ Below w.heap.size w wr ∧
      Hid (∀ k, HpF g gw v k → w.heap.size ≤ k) ∧ Hid (∀ k, (Value.slice Al l.length cl).ownBlock = some k → ¬ HpF g gw v k)) (fun _ iv _ => 100 - (intOf iv).toNat)
  case atStart => exact ⟨0, _, [], _, _, by omega, rfl, rfl, HI1.out, HO1.out, HB1.out, F1, HLF1⟩
  case round =>
    obtain ⟨k, v, l, Al, cl, hk, rfl, rfl, hi, ho, hb, HF, HLF⟩ := hrel
    have HI := hid hi
    have HO := hid ho
    have HB := hid hb
    have hl16 : l.length ≤ 16 := by obtain ⟨_, _, _, _, _, hnn, _, hnm⟩ := hi; omega
    clear hi hb ho HI1 HB1 HO1 F1 HLF1
    by_cases hkK : k < 60
    · have h32 : k < n := by omega
      obtain ⟨b, off, rfl, hbl, hc⟩ := HR.out.at (by rw [intCells_length, HL.out]; omega)
      have hkl : k < ats.length := by rw [HL.out]; omega
      have cw := hc k _ (intCells_get ats k hkl)
      have hkn : k < n := by omega
      obtain ⟨a, ha⟩ : ∃ a, ats[k]'hkl = a := ⟨_, rfl⟩
      rw [ha] at cw
      obtain ⟨q, hq⟩ : ∃ q, k % 16 = q := ⟨_, rfl⟩
      have hq16 : q < 16 := by omega
      have hmod : (k : Int) % 16 = (q : Int) := by omega
      have c0 := (HB.out.cell (p := ⟨b, off + k, none⟩) hbl).trans cw
      have HC := hid (setH_any g gw 16 v l q a wr HI.out hq16)
      clear hc ha hkl hq
      go_wp2_with fail
      refine HC.out.mono ?_
      rintro e w2 ⟨rfl, hp⟩
      obtain ⟨b2, -⟩ := hp.lower HB.out.size HF.out
      obtain ⟨v2, hi2, hk2, hv2⟩ := hp
      have HI2 := hid hi2
      have HB2 := hid (HB.out.trans b2)
      have HO2 := hid (hk2.own HO.out HLF.out)
      have HF2 : Hid (∀ k, HpF g gw v2 k → w.heap.size ≤ k) := by
        rintro k (h | h | h)
        · exact HF.out k (.inl h)
        · exact HF.out k (.inr (.inl h))
        · rcases hv2 k h with h | h
          · exact HF.out k (.inr (.inr h))
          · have := HB.out.size; omega
      have c1 := (HB2.out.cell (p := ⟨b, off + k, none⟩) hbl).trans cw
      have HS := hid (setR_any Al l.length cl l 16 q a w2 rfl (by omega) (Rd_of_own HO2.out) hq16)
      clear b2 hi2 hk2 hv2 HC c0 cw
      go_wp2_with fail
      refine HS.out.mono ?_
      rintro e w3 ⟨v3, rfl, ho3, hb3⟩
      obtain ⟨A3, c3, rfl, -⟩ := own_shape ho3
      have HI3 := hid (HI2.out.below hb3)
      have HO3 := hid (own_base ho3 HB2.out.size)
      have HB3 := hid (HB2.out.trans (hb3.mono HB2.out.size))
      have HLF3 : Hid (∀ k, (Value.slice A3 (setE l q a).length c3).ownBlock = some k → ¬ HpF g gw v2 k) := by
        intro k hk hf
        have h1 := (ho3.lt k hk).1
        have h2 := HI2.out.lt k hf
        omega
      clear ho3 hb3 HS
      go_wp2_with fail
      go_roundw
      case rel => exact ⟨k + 1, v2, setE l q a, A3, c3, by omega, rfl, by go_num, HI3.out, HO3.out, HB3.out, HF2, HLF3⟩
      case measure => simp [intOf]; omega
    · obtain rfl : 60 = k := by omega
      have hsorted : SortedE l := by obtain ⟨_, _, _, _, hh, _⟩ := HI.out; exact hh.sorted
      have HSO := hid hsorted
      obtain ⟨wo, hwo⟩ : ∃ wo : World, wo = wr := ⟨wr, rfl⟩
      subst hwo
      have hsz := HB.out.size
      have HI6 := hid (HI.out.below ((Below.refl _ _).alloc (Nat.le_refl _) (.cells #[] 38)))
      have HO6 : Hid ((wo.alloc (.cells #[] 38)).ownsRow w.heap.size 38 2 (.slice (some ⟨wo.heap.size, 0, none⟩) 0 0) 0 []) := World.ownsRow_made _ _ _ hsz (by simp [maxLen]) (by simp)
      have HL6 := hid (HO.out.alloc (.cells #[] 38))
      have HB6 := hid (HB.out.alloc hsz (.cells #[] 38))
      have HOF6 : Hid (∀ q, (Value.slice (some ⟨wo.heap.size, 0, none⟩) 0 0).ownBlock = some q → ¬ HpF g gw v q ∧ (Value.slice Al l.length cl).ownBlock ≠ some q) := by
        intro q hq
        simp only [Value.ownBlock, Option.some.injEq] at hq
        subst hq
        exact ⟨fun hf => absurd (HI.out.lt _ hf) (Nat.lt_irrefl _), fun hh => absurd (HO.out.lt _ hh).2 (Nat.lt_irrefl _)⟩
      clear hsorted
      go_wp2_with fail
      go_loopw [6, 7] (fun ov iv wr => ∃ (done rest : List Ent) (v' : Value) (A : Option Addr) (c : Nat), Hid (l = done ++ rest) ∧ ov = .slice A done.length c ∧ iv = .int .i64 (done.length : Int) ∧ HpI wr g gw 16 v' rest ∧
          wr.ownsRow w.heap.size 38 2 (.slice A done.length c) done.length (entCells done) ∧ wr.ownsRow w.heap.size 38 2 (.slice Al l.length cl) l.length (entCells l) ∧ Below w.heap.size w wr ∧
          Hid (∀ q, HpF g gw v' q → w.heap.size ≤ q) ∧ Hid (∀ q, (Value.slice A done.length c).ownBlock = some q → ¬ HpF g gw v' q ∧ (Value.slice Al l.length cl).ownBlock ≠ some q) ∧ Hid (∀ q, (Value.slice Al l.length cl).ownBlock = some q → ¬ HpF g gw v' q)) (fun _ iv _ => 100 - (intOf iv).toNat)
      case atStart => exact ⟨[], l, v, some ⟨wo.heap.size, 0, none⟩, 0, rfl, rfl, rfl, HI6.out, HO6.out, HL6.out, HB6.out, HF, HOF6, HLF⟩
      case round =>
        obtain ⟨done, rest, v', A', c', HSP, rfl, rfl, hi, ho, hlr, hb, HFv, HOF, HLFv⟩ := hrel
        have HHI := hid hi; have HHO := hid ho; have HHL := hid hlr; have HHB := hid hb
        have hdl : done.length + rest.length = l.length := by rw [HSP.out]; simp
        have hd17 : done.length < 17 := by omega
        clear hi ho hlr hb HI6 HO6 HL6 HB6 HOF6
        cases rest with
        | nil =>
          have HP := hid (pop_none g gw 16 v' wr HHI.out)
          have hdone : done = l := by rw [HSP.out]; simp
          go_wp2_with fail
          refine HP.out.mono ?_
          rintro e w2 ⟨rfl, hb2⟩
          have B2 := hid (hb2.alloc hb2.size (.cells #[.int .i64 0, .int .i64 0] 38))
          have HI2 := hid (HHI.out.below B2.out)
          have HBB := hid (HHB.out.trans (B2.out.mono HHB.out.size))
          have HS := hid (sameE_any A' Al done.length l.length c' cl done l _ rfl rfl (by omega) (by omega) (Rd_of_own (own_below HHO.out B2.out)) (Rd_of_own (own_below HHL.out B2.out)))
          rw [show sameE done l = true from decide_eq_true hdone] at HS
          clear hb2 HP hdone
          go_wp2_with fail
          refine HS.out.mono ?_
          rintro e w4 ⟨rfl, hb4⟩
          have HI4 := hid (HI2.out.below hb4)
          have HB4 := hid (HBB.out.trans (hb4.mono HBB.out.size))
          have HN := hid (len_any g gw 16 v' [] w4 HI4.out)
          clear hb4 HS
          go_wp2_with fail
          refine HN.out.mono ?_
          rintro e w5 ⟨rfl, rfl⟩
          go_wp2_with fail
          refine (lives5_any _).mono ?_
          rintro e w6 ⟨rfl, hb6⟩
          have HB6 := hid (HB4.out.trans (hb6.mono HB4.out.size))
          clear hb6
          go_wp2_with fail
          go_ret
          exact ⟨rfl, HB6.out⟩
        | cons x r =>
          have HP := hid (pop_some g gw 16 v' x r wr HHI.out)
          have hlast : ∀ y d2, done = d2 ++ [y] → y.lt x := by
            intro y d2 h
            have h1 := HSO.out
            rw [HSP.out, h, List.append_assoc] at h1
            have h2 := (List.pairwise_append.1 h1).2.1
            exact (List.pairwise_cons.1 h2).1 x (by simp)
          have HLAST := hid hlast
          clear hlast
          go_wp2_with fail
          refine HP.out.mono ?_
          rintro e w2 ⟨rfl, hp⟩
          obtain ⟨b2, -⟩ := hp.lower HHB.out.size HFv.out
          obtain ⟨v2, hi2, hk2, hv2⟩ := hp
          have hs2 := hk2.size
          have KA : Below w2.heap.size w2 (w2.alloc (.cells #[.int .i64 x.t, .int .i64 (x.id : Int)] 38)) := (Below.refl _ _).alloc (Nat.le_refl _) _
          obtain ⟨w3, hw3⟩ : ∃ q, w2.alloc (.cells #[.int .i64 x.t, .int .i64 (x.id : Int)] 38) = q := ⟨_, rfl⟩
          have e0 : w3.cell? ⟨w2.heap.size, 0, none⟩ = some (.int .i64 x.t) := by rw [← hw3]; exact (Blk.new w2 _ _).cell 0
          have e1 : w3.cell? ⟨w2.heap.size, 1, none⟩ = some (.int .i64 (x.id : Int)) := by rw [← hw3]; exact (Blk.new w2 _ _).cell 1
          have hlt3 : w2.heap.size < w3.heap.size := by rw [← hw3]; simp
          rw [hw3] at KA
          have HI3 := hid (hi2.below KA)
          have HO3 := hid (own_below (hk2.own HHO.out (fun q hq => (HOF.out q hq).1)) KA)
          have HL3 := hid (own_below (hk2.own HHL.out HLFv.out) KA)
          have B3 := hid ((HHB.out.trans b2).trans (KA.mono (by have := (HHB.out.trans b2).size; omega)))
          have HF2 : Hid (∀ q, HpF g gw v2 q → w.heap.size ≤ q) := by
            rintro k (h | h | h)
            · exact HFv.out k (.inl h)
            · exact HFv.out k (.inr (.inl h))
            · rcases hv2 k h with h | h
              · exact HFv.out k (.inr (.inr h))
              · have := HHB.out.size; omega
          have HOF2 : Hid (∀ q, (Value.slice A' done.length c').ownBlock = some q → ¬ HpF g gw v2 q) := by
            rintro q hq (h | h | h)
            · exact (HOF.out q hq).1 (.inl h)
            · exact (HOF.out q hq).1 (.inr (.inl h))
            · rcases hv2 q h with h | h
              · exact (HOF.out q hq).1 (.inr (.inr h))
              · have := (HHO.out.lt q hq).2; omega
          have HLF2 : Hid (∀ q, (Value.slice Al l.length cl).ownBlock = some q → ¬ HpF g gw v2 q) := by
            rintro q hq (h | h | h)
            · exact HLFv.out q hq (.inl h)
            · exact HLFv.out q hq (.inr (.inl h))
            · rcases hv2 q h with h | h
              · exact HLFv.out q hq (.inr (.inr h))
              · have := (HHL.out.lt q hq).2; omega
          have HOL : Hid (∀ q, (Value.slice A' done.length c').ownBlock = some q → (Value.slice Al l.length cl).ownBlock ≠ some q) := fun q hq => (HOF.out q hq).2
          have hd16 : done.length ≤ 16 := by simp at hdl; omega
          clear hi2 hk2 hv2 b2 HP KA
          go_wp2_with fail
          clear hw3
          rcases Nat.eq_zero_or_pos done.length with h0 | h0
          · have h0d : decide (0 < done.length) = false := by simp [h0]
            have h0i : decide ((0 : Int) < (done.length : Int)) = false := by simp [h0]
            clear h0
            go_wp2_with fail
            go_quiet (fail)
            obtain ⟨w4, hw4⟩ : ∃ q, w3.drewN nq = q := ⟨_, rfl⟩
            have hb4 : Below w3.heap.size w3 w4 := by rw [← hw4]; exact drewN_below _ _
            rw [hw4]
            clear hw4
            have f0 := (hb4.cell (p := ⟨w2.heap.size, 0, none⟩) (by omega)).trans e0
            have f1 := (hb4.cell (p := ⟨w2.heap.size, 1, none⟩) (by omega)).trans e1
            have HO4 := hid (own_below HO3.out hb4)
            have HI4 := hid (HI3.out.below hb4)
            have HL4 := hid (own_below HL3.out hb4)
            have B4 := hid (B3.out.trans (hb4.mono (by have := B3.out.size; omega)))
            have hlt4 : w2.heap.size < w4.heap.size := by have := hb4.size; omega
            have hws4 : w.heap.size ≤ w4.heap.size := by have := B4.out.size; omega
            clear hb4 e0 e1
            go_wp2_with (at_builtin; refine wpList_append1K _ rfl _ _ 33 rfl w.heap.size 38 _ 2 16 Try.underlying33 Try.infoEntry rfl (by decide) _ _ _ rfl HO4.out 1 x.cells (by go_simp) rfl rfl ?_ (by decide) hws4 ?_)
            · omega
            intro ge c5 w5 hown5 hk5 hf5
            have HI5 := hid (HI4.out.keep hk5 (fun q hq h => HOF2.out q h hq))
            have HL5 := hid (hk5.own HL4.out (fun q hq h => (HOL.out q h) hq))
            have B5 := hid (B4.out.trans (hk5.below (B := w.heap.size) hws4 (fun q h => (HO4.out.lt q h).1)))
            have HGE : Hid (¬ HpF g gw v2 ge ∧ (Value.slice Al l.length cl).ownBlock ≠ some ge) := by
              rcases hf5 with h | h
              · exact ⟨HOF2.out ge h, fun hh => HOL.out ge h hh⟩
              · exact ⟨fun hf => by have := HI4.out.lt ge hf; omega, fun hh => by have := (HL4.out.lt ge hh).2; omega⟩
            have HO5 : Hid (w5.ownsRow w.heap.size 38 2 (.slice (some ⟨ge, 0, none⟩) (done ++ [x]).length c5) (done ++ [x]).length (entCells (done ++ [x]))) := by
              rw [Hid, entCells_append, List.length_append]; simpa [entCells] using hown5
            have HSP2 : Hid (l = (done ++ [x]) ++ r) := by rw [Hid, HSP.out]; simp
            have HFF : Hid (∀ q, HpF g gw v2 q → w.heap.size ≤ q) := HF2
            clear hown5 hk5 hf5 HI4 HL4 HO4 f0 f1 HI3 HL3 HO3
            go_wp2_with fail
            go_roundw
            case rel => exact ⟨done ++ [x], r, v2, some ⟨ge, 0, none⟩, c5, HSP2, by simp, by simp, HI5.out, HO5.out, HL5.out, B5.out, HFF, fun q hq => (by simp only [Value.ownBlock, Option.some.injEq] at hq; subst hq; exact ⟨HGE.out.1, HGE.out.2⟩), HLF2⟩
            case measure => simp [intOf]; omega
          · obtain ⟨d2, y, hdy⟩ : ∃ d2 y, done = d2 ++ [y] := ⟨done.dropLast, done.getLast (by intro h; rw [h] at h0; simp at h0), (List.dropLast_concat_getLast _).symm⟩
            have hyx := HLAST.out y d2 hdy
            have hdl2 : done.length = d2.length + 1 := by rw [hdy]; simp
            have heg : eg done d2.length = y := by rw [hdy]; exact eg_snoc
            obtain ⟨p, hp⟩ : ∃ p, d2.length = p := ⟨_, rfl⟩
            rw [hp] at hdl2 heg
            have hrd9 := Rd_of_own HO3.out
            obtain ⟨bo, oo, hAo, hbo, hco⟩ := hrd9.at (by rw [entCells_length]; omega)
            obtain ⟨y0, y1⟩ := rd_ent hco p (by omega)
            rw [heg] at y0 y1
            have hpd : (done.length : Int) - 1 = (p : Int) := by omega
            have hpn : p < done.length := by omega
            have h0i : decide ((0 : Int) < (done.length : Int)) = true := by simp; omega
            subst hAo
            clear hdy hp heg hrd9 hco hdl2
            by_cases hty : y.t = x.t
            · have hid3 : y.id < x.id := by unfold Ent.lt at hyx; omega
              have g1 : decide (x.t < y.t) = false := by simp; omega
              have g2 : (y.t == x.t) = true := by simp [hty]
              have g3 : decide (x.id ≤ y.id) = false := by simp; omega
              have g4 : decide ((x.id : Int) ≤ (y.id : Int)) = false := by simp; omega
              clear hyx hty hid3
              go_wp2_with fail
              go_quiet (fail)
              obtain ⟨w4, hw4⟩ : ∃ q, w3.drewN nq = q := ⟨_, rfl⟩
              have hb4 : Below w3.heap.size w3 w4 := by rw [← hw4]; exact drewN_below _ _
              rw [hw4]
              clear hw4
              have f0 := (hb4.cell (p := ⟨w2.heap.size, 0, none⟩) (by omega)).trans e0
              have f1 := (hb4.cell (p := ⟨w2.heap.size, 1, none⟩) (by omega)).trans e1
              have HO4 := hid (own_below HO3.out hb4)
              have HI4 := hid (HI3.out.below hb4)
              have HL4 := hid (own_below HL3.out hb4)
              have B4 := hid (B3.out.trans (hb4.mono (by have := B3.out.size; omega)))
              have hlt4 : w2.heap.size < w4.heap.size := by have := hb4.size; omega
              have hws4 : w.heap.size ≤ w4.heap.size := by have := B4.out.size; omega
              clear hb4 e0 e1
              go_wp2_with (at_builtin; refine wpList_append1K _ rfl _ _ 33 rfl w.heap.size 38 _ 2 16 Try.underlying33 Try.infoEntry rfl (by decide) _ _ _ rfl HO4.out 1 x.cells (by go_simp) rfl rfl ?_ (by decide) hws4 ?_)
              · omega
              intro ge c5 w5 hown5 hk5 hf5
              have HI5 := hid (HI4.out.keep hk5 (fun q hq h => HOF2.out q h hq))
              have HL5 := hid (hk5.own HL4.out (fun q hq h => (HOL.out q h) hq))
              have B5 := hid (B4.out.trans (hk5.below (B := w.heap.size) hws4 (fun q h => (HO4.out.lt q h).1)))
              have HGE : Hid (¬ HpF g gw v2 ge ∧ (Value.slice Al l.length cl).ownBlock ≠ some ge) := by
                rcases hf5 with h | h
                · exact ⟨HOF2.out ge h, fun hh => HOL.out ge h hh⟩
                · exact ⟨fun hf => by have := HI4.out.lt ge hf; omega, fun hh => by have := (HL4.out.lt ge hh).2; omega⟩
              have HO5 : Hid (w5.ownsRow w.heap.size 38 2 (.slice (some ⟨ge, 0, none⟩) (done ++ [x]).length c5) (done ++ [x]).length (entCells (done ++ [x]))) := by
                rw [Hid, entCells_append, List.length_append]; simpa [entCells] using hown5
              have HSP2 : Hid (l = (done ++ [x]) ++ r) := by rw [Hid, HSP.out]; simp
              have HFF : Hid (∀ q, HpF g gw v2 q → w.heap.size ≤ q) := HF2
              clear hown5 hk5 hf5 HI4 HL4 HO4 f0 f1 HI3 HL3 HO3
              go_wp2_with fail
              go_roundw
              case rel => exact ⟨done ++ [x], r, v2, some ⟨ge, 0, none⟩, c5, HSP2, by simp, by simp, HI5.out, HO5.out, HL5.out, B5.out, HFF, fun q hq => (by simp only [Value.ownBlock, Option.some.injEq] at hq; subst hq; exact ⟨HGE.out.1, HGE.out.2⟩), HLF2⟩
              case measure => simp [intOf]; omega
            · have g1 : decide (x.t < y.t) = false := by unfold Ent.lt at hyx; simp; omega
              have g2 : (y.t == x.t) = false := by simp [hty]
              clear hyx hty
              go_wp2_with fail
              go_quiet (fail)
              obtain ⟨w4, hw4⟩ : ∃ q, w3.drewN nq = q := ⟨_, rfl⟩
              have hb4 : Below w3.heap.size w3 w4 := by rw [← hw4]; exact drewN_below _ _
              rw [hw4]
              clear hw4
              have f0 := (hb4.cell (p := ⟨w2.heap.size, 0, none⟩) (by omega)).trans e0
              have f1 := (hb4.cell (p := ⟨w2.heap.size, 1, none⟩) (by omega)).trans e1
              have HO4 := hid (own_below HO3.out hb4)
              have HI4 := hid (HI3.out.below hb4)
              have HL4 := hid (own_below HL3.out hb4)
              have B4 := hid (B3.out.trans (hb4.mono (by have := B3.out.size; omega)))
              have hlt4 : w2.heap.size < w4.heap.size := by have := hb4.size; omega
              have hws4 : w.heap.size ≤ w4.heap.size := by have := B4.out.size; omega
              clear hb4 e0 e1
              go_wp2_with (at_builtin; refine wpList_append1K _ rfl _ _ 33 rfl w.heap.size 38 _ 2 16 Try.underlying33 Try.infoEntry rfl (by decide) _ _ _ rfl HO4.out 1 x.cells (by go_simp) rfl rfl ?_ (by decide) hws4 ?_)
              · omega
              intro ge c5 w5 hown5 hk5 hf5
              have HI5 := hid (HI4.out.keep hk5 (fun q hq h => HOF2.out q h hq))
              have HL5 := hid (hk5.own HL4.out (fun q hq h => (HOL.out q h) hq))
              have B5 := hid (B4.out.trans (hk5.below (B := w.heap.size) hws4 (fun q h => (HO4.out.lt q h).1)))
              have HGE : Hid (¬ HpF g gw v2 ge ∧ (Value.slice Al l.length cl).ownBlock ≠ some ge) := by
                rcases hf5 with h | h
                · exact ⟨HOF2.out ge h, fun hh => HOL.out ge h hh⟩
                · exact ⟨fun hf => by have := HI4.out.lt ge hf; omega, fun hh => by have := (HL4.out.lt ge hh).2; omega⟩
              have HO5 : Hid (w5.ownsRow w.heap.size 38 2 (.slice (some ⟨ge, 0, none⟩) (done ++ [x]).length c5) (done ++ [x]).length (entCells (done ++ [x]))) := by
                rw [Hid, entCells_append, List.length_append]; simpa [entCells] using hown5
              have HSP2 : Hid (l = (done ++ [x]) ++ r) := by rw [Hid, HSP.out]; simp
              have HFF : Hid (∀ q, HpF g gw v2 q → w.heap.size ≤ q) := HF2
              clear hown5 hk5 hf5 HI4 HL4 HO4 f0 f1 HI3 HL3 HO3
              go_wp2_with fail
              go_roundw
              case rel => exact ⟨done ++ [x], r, v2, some ⟨ge, 0, none⟩, c5, HSP2, by simp, by simp, HI5.out, HO5.out, HL5.out, B5.out, HFF, fun q hq => (by simp only [Value.ownBlock, Option.some.injEq] at hq; subst hq; exact ⟨HGE.out.1, HGE.out.2⟩), HLF2⟩
              case measure => simp [intOf]; omega

theorem heapSorts_any (A : Option Addr) (n c : Nat) (ats : List Int) (w : World) (hl : ats.length = n) (hn : n ≤ 9223372036854775807) (hr : Rd w A (intCells ats)) :
    Calls Try.prog 5 #[.slice A n c] w fun e w' => e = .returned (.bool true) ∧ Below w.heap.size w w' := by
  by_cases h : n ≤ 60
  · exact heapSorts_small A n c ats w hl hn hr h
  · exact heapSorts_big A n c ats w hl hn hr (by omega)
end Go.Proofs.Ytdhoedohchbagaa
