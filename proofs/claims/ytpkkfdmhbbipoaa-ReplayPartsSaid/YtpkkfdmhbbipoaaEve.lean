/- Events by rounds: the walk. -/
import Derived.Test.YtpkkfdmhbbipoaaEvd
namespace Go.Proofs.Ytpkkfdmhbbipoaa
open Go.RowKit

theorem own_some {W : World} {e : TypeId} {size B k : Nat} {x : Value} {xs : List Value} (h : W.ownsRow B e size x k xs) (hk : 0 < k) : ∃ g c, x = .slice (some ⟨g, 0, none⟩) k c := by
  rcases h.2 with ⟨_, h0⟩ | ⟨g, cap, cur, hv, _⟩
  · omega
  · exact ⟨g, cap, hv⟩
theorem own_slE {W : World} {e : TypeId} {size B k : Nat} {x : Value} {xs : List Value} (h : W.ownsRow B e size x k xs) : ∃ A c, x = .slice A k c := by
  rcases h.2 with ⟨hv, h0⟩ | ⟨g, cap, cur, hv, _⟩
  · subst h0; exact ⟨none, 0, hv⟩
  · exact ⟨_, cap, hv⟩
theorem lastAdd_len (L : List (List EvV)) (x : EvV) (n : Nat) (h : ∀ r ∈ L, r.length ≤ n) : ∀ r ∈ lastAdd L x, r.length ≤ n + 1 := by
  induction L with
  | nil => intro r hr; cases hr
  | cons a L ih =>
    cases L with
    | nil =>
      intro r hr
      rw [lastAdd, List.mem_singleton] at hr
      have := h a (by simp)
      rw [hr, List.length_append, List.length_singleton]; omega
    | cons s l =>
      intro r hr
      rw [lastAdd] at hr
      rcases List.mem_cons.1 hr with rfl | hr
      · have := h r (by simp); omega
      · exact ih (fun q hq => h q (List.mem_cons_of_mem _ hq)) r hr
theorem cutEvs_snoc (l : List EvV) (x : EvV) : cutEvs (l ++ [x]) = cutStep (cutEvs l) x := by unfold cutEvs; rw [List.foldl_append]; rfl
theorem cutEvs_len (l : List EvV) : (cutEvs l).length ≤ l.length ∧ ∀ r ∈ cutEvs l, r.length ≤ l.length := by
  suffices H : ∀ (k : Nat) (l : List EvV), l.length = k → (cutEvs l).length ≤ k ∧ ∀ r ∈ cutEvs l, r.length ≤ k by exact H _ l rfl
  intro k
  induction k with
  | zero =>
    intro l hl
    obtain rfl := List.length_eq_zero_iff.1 hl
    exact ⟨Nat.le_refl _, fun r hr => by cases hr⟩
  | succ k ih =>
    intro l hl
    obtain ⟨m, x, rfl⟩ : ∃ m x, l = m ++ [x] := ⟨l.dropLast, l.getLast (by intro h; rw [h] at hl; cases hl), (List.dropLast_concat_getLast _).symm⟩
    have hm : m.length = k := by rw [List.length_append, List.length_singleton] at hl; omega
    obtain ⟨h1, h2⟩ := ih m hm
    rw [cutEvs_snoc, cutStep]
    refine ⟨?_, ?_⟩
    · rw [lastAdd_length]; split
      · rw [List.length_append, List.length_singleton]; omega
      · omega
    · refine lastAdd_len _ _ k ?_
      split
      · intro r hr
        rcases List.mem_append.1 hr with hr | hr
        · exact h2 r hr
        · rw [List.mem_singleton] at hr; subst hr; exact Nat.zero_le _
      · exact h2

set_option maxRecDepth 20000 in
set_option maxHeartbeats 4000000 in
theorem cutRounds_any (A : Option Addr) (n c : Nat) (l : List EvV) (w : World) (hl : l.length = n) (hr : Rd w A (evCells l)) (hn : n ≤ 1000) :
    Calls Try.prog 66 #[.slice A n c] w fun e w' => (∃ vs ov, e = .returned ov ∧ CutAt w.heap.size w' (cutEvs l) vs ov) ∧ Below w.heap.size w w' := by
  have HL := hid hl
  have HRB : Hid (∀ W, Below w.heap.size w W → Rd W A (evCells l)) := fun W hb => hr.below hb
  clear hl hr
  go_enter Try.func66, Try.ntmps66
  go_wp2_with fail
  go_loopw [9, 3] (fun iv ov wr => ∃ (i : Nat) (vs : List Value), i ≤ n ∧ iv = .int .i64 (i : Int) ∧ CutAt w.heap.size wr (cutEvs (l.take i)) vs ov ∧ Below w.heap.size w wr) (fun iv _ _ => n - (intOf iv).toNat)
  case atStart => exact ⟨0, [], by omega, rfl, ⟨World.ownsRow_nil _ _ _ _, rfl, fun j x h => (by cases h), fun j v h => (by cases h)⟩, Below.refl _ _⟩
  case round =>
    obtain ⟨i, vs, hi, rfl, hc, hb⟩ := hrel
    have HB := hid hb; have HC := hid hc
    clear hc hb
    by_cases hlt : i < n
    · have hli : i < l.length := by rw [HL.out]; exact hlt
      have hget : l[i]? = some (l[i]'hli) := List.getElem?_eq_getElem hli
      have HTK : Hid (cutEvs (l.take (i + 1)) = cutStep (cutEvs (l.take i)) (l[i]'hli)) := by rw [Hid, List.take_succ_eq_append_getElem hli, cutEvs_snoc]
      have HLB0 : Hid ((cutEvs (l.take i)).length ≤ i ∧ ∀ r ∈ cutEvs (l.take i), r.length ≤ i) := by
        have := cutEvs_len (l.take i)
        rw [List.length_take, Nat.min_eq_left (by omega)] at this
        exact this
      obtain ⟨ex, hex⟩ : ∃ y, l[i]'hli = y := ⟨_, rfl⟩
      rw [hex] at hget HTK
      obtain ⟨L, hLL⟩ : ∃ y, cutEvs (l.take i) = y := ⟨_, rfl⟩
      rw [hLL] at HTK HLB0 HC
      obtain ⟨bl, off, rfl, hbl, hcc⟩ := (HRB.out wr HB.out).at (by rw [evCells_length]; omega)
      have hcx : ∀ j u, j < 12 → ex.cells[j]? = some u → wr.cell? ⟨bl, off + (i * 12 + j), none⟩ = some u := fun j u hj hu => hcc _ u ((ev_at l i ex hget j hj).trans hu)
      have HEX : Hid (cutStep L ex = lastAdd (if ex.kind = 1 then L ++ [[]] else L) ex) := rfl
      obtain ⟨X, hX⟩ : ∃ y, y = ex := ⟨_, rfl⟩
      have HXE := hid hX
      rw [← hX] at HTK HEX
      have HKX : Hid (X.kind = ex.kind) := by rw [Hid, hX]
      have HCX : Hid (X.cells = ex.cells) := by rw [Hid, hX]
      clear hX
      obtain ⟨xkind, xid, xn, xtick, xb, xe, xt1, xt2, xt3, xt4, xt5, xt6⟩ := ex
      have c0 := hcx 0 _ (by omega) rfl
      have c1 := hcx 1 _ (by omega) rfl
      have c2 := hcx 2 _ (by omega) rfl
      have c3 := hcx 3 _ (by omega) rfl
      have c4 := hcx 4 _ (by omega) rfl
      have c5 := hcx 5 _ (by omega) rfl
      have c6 := hcx 6 _ (by omega) rfl
      have c7 := hcx 7 _ (by omega) rfl
      have c8 := hcx 8 _ (by omega) rfl
      have c9 := hcx 9 _ (by omega) rfl
      have c10 := hcx 10 _ (by omega) rfl
      have c11 := hcx 11 _ (by omega) rfl
      simp only [Nat.add_zero, ← Nat.add_assoc] at c0 c1 c2 c3 c4 c5 c6 c7 c8 c9 c10 c11
      clear hget hcx hcc hex hli hLL HXE
      obtain ⟨Ao, co, hov⟩ := own_slE HC.out.out
      subst hov
      have hi2 : (i : Int) < (n : Int) := by omega
      go_upto_region 5 with fail
      obtain ⟨w2, hw2⟩ : ∃ W, wr.alloc (.cells #[.int .i64 xkind, .int .i64 xid, .int .i64 xn, .int .i64 xtick, .string xb, .int .i64 xe, .int .i64 xt1, .int .i64 xt2, .int .i64 xt3, .int .i64 xt4, .int .i64 xt5, .int .i64 xt6] 72) = W := ⟨_, rfl⟩
      have HI2 : Hid (Blk w2 wr.heap.size 72 #[.int .i64 xkind, .int .i64 xid, .int .i64 xn, .int .i64 xtick, .string xb, .int .i64 xe, .int .i64 xt1, .int .i64 xt2, .int .i64 xt3, .int .i64 xt4, .int .i64 xt5, .int .i64 xt6]) := by rw [← hw2]; exact Blk.new _ _ _
      have HB2 : Hid (Below wr.heap.size wr w2) := by rw [← hw2]; exact (Below.refl _ _).alloc (Nat.le_refl _) _
      rw [hw2]
      clear hw2 c0 c1 c2 c3 c4 c5 c6 c7 c8 c9 c10 c11 hbl
      have HC2 := hid (HC.out.below HB2.out)
      have HB3 := hid (HB.out.trans (HB2.out.mono HB.out.size))
      have HGX : Hid (wr.heap.size ≤ wr.heap.size) := Nat.le_refl _
      have HNX : Hid (∀ k, (Value.slice Ao L.length co).ownBlock = some k → k ≠ wr.heap.size) := fun k hk e => by have := (HC.out.out.lt k hk).2; omega
      obtain ⟨gx, hgx⟩ : ∃ y, wr.heap.size = y := ⟨_, rfl⟩
      rw [hgx] at HI2 HNX ⊢
      have HNXA0 : Hid (∀ (j : Nat) v, vs[j]? = some v → ∀ k, v.ownBlock = some k → k ≠ gx) := fun j v hj k hv e => by
        have hjl : j < L.length := by rw [← HC.out.len]; exact (List.getElem?_eq_some_iff.1 hj).1
        obtain ⟨A, c, h1, h2⟩ := HC.out.row j _ (List.getElem?_eq_getElem hjl)
        rw [hj] at h1
        obtain rfl := Option.some.inj h1
        have := (h2.lt k hv).2; omega
      clear hgx HGX HB2
      obtain ⟨i0, i1, i2, i3, i4, i5, i6, i7, i8, i9, i10, i11⟩ := fact12 HI2.out
      have hlI := HI2.out.lt
      rcases Decidable.em (xkind = 1) with hk1 | hk1
      case inl =>
        have hb1 : (xkind == 1) = true := by rw [beq_iff_eq]; exact hk1
        have HEQ4 : Hid (cutEvs (l.take (i + 1)) = lastAdd (L ++ [[]]) X) := by rw [Hid, HTK.out, HEX.out, if_pos (show X.kind = 1 by rw [HKX.out]; exact hk1)]
        have hs2 : w.heap.size ≤ w2.heap.size := HB3.out.size
        have hLi : L.length ≤ 1000 := by have := HLB0.out.1; omega
        clear hk1
        go_wp2_with (at_builtin; refine wpList_append1K _ rfl _ _ 133 rfl w.heap.size 22 _ 1 24 Try.underlying133 Try.infoEl rfl (by decide) _ _ _ rfl HC2.out.out 1 [.slice none 0 0] rfl rfl rfl ?_ (by decide) hs2 ?_)
        · omega
        intro g4 c4 w4 hown4 hk4 hf4
        have HC4 := hid (HC2.out.push hk4 hown4 (fun k e => by cases e; exact hf4))
        have HB4 : Hid (Below w.heap.size w w4) := HB3.out.trans (hk4.below HB3.out.size (fun k hk => (HC2.out.out.lt k hk).1))
        have HI4 := hid (hk4.blk HI2.out (fun e => HNX.out gx e rfl))
        have HNO4 : Hid (g4 ≠ gx) := fun e => by rcases hf4 with h1 | h1; exact HNX.out g4 h1 e; omega
        have HNXA : Hid (∀ (j : Nat) v, (vs ++ [Value.slice none 0 0])[j]? = some v → ∀ k, v.ownBlock = some k → k ≠ gx) := fun j v hj k hv => by
          by_cases hjl : j < vs.length
          · rw [List.getElem?_append_left hjl] at hj; exact HNXA0.out j v hj k hv
          · rw [List.getElem?_append_right (by omega)] at hj
            have hm := List.mem_of_getElem? hj
            rw [List.mem_singleton] at hm; subst hm; cases hv
        have HPOS : Hid (0 < (L ++ [[]]).length) := by rw [Hid, List.length_append, List.length_singleton]; omega
        have HLB : Hid ((L ++ [[]]).length ≤ i + 1 ∧ ∀ r ∈ L ++ [[]], r.length ≤ i) := by
          refine ⟨by rw [List.length_append, List.length_singleton]; have := HLB0.out.1; omega, fun r hr => ?_⟩
          rcases List.mem_append.1 hr with hr | hr
          · exact HLB0.out.2 r hr
          · rw [List.mem_singleton] at hr; subst hr; exact Nat.zero_le _
        have hlen : L.length + 1 = (L ++ [[]]).length := by rw [List.length_append]; rfl
        rw [hlen] at hown4 HC4 ⊢
        obtain ⟨L1, hL1⟩ : ∃ y, L ++ [[]] = y := ⟨_, rfl⟩
        obtain ⟨vs1, hvs1⟩ : ∃ y, vs ++ [Value.slice none 0 0] = y := ⟨_, rfl⟩
        rw [hL1] at HEQ4 HC4 HPOS HLB ⊢
        rw [hvs1] at HC4 HNXA
        obtain ⟨ov1, hov1⟩ : ∃ y, Value.slice (some ⟨g4, 0, none⟩) L1.length c4 = y := ⟨_, rfl⟩
        have HOX : Hid (∀ k, ov1.ownBlock = some k → k ≠ gx) := fun k hk => by rw [← hov1] at hk; cases hk; exact HNO4.out
        rw [hov1] at HC4 ⊢
        clear HNO4 hov1 hL1 hvs1 hlen hown4 hk4 hf4 i0 i1 i2 i3 i4 i5 i6 i7 i8 i9 i10 i11 hlI HI2 HC2 HB3 HNX HNXA0 HLB0 HTK HEX hs2 hLi
        obtain ⟨m, hm⟩ : ∃ m, L1.length = m + 1 := ⟨L1.length - 1, by have := HPOS.out; omega⟩
        have hmb : m ≤ 1001 := by have := HLB.out.1; omega
        have hw64 : IntKind.i64.wrap (((m + 1 : Nat) : Int) - 1) = (m : Int) := by rw [show (((m + 1 : Nat) : Int) - 1) = (m : Int) by omega]; apply IntWalk.i64_in <;> omega
        obtain ⟨x0, hx0⟩ : ∃ x, L1[m]? = some x := ⟨_, List.getElem?_eq_getElem (by omega)⟩
        obtain ⟨A0, c0, hv0, hown0⟩ := HC4.out.row m x0 hx0
        have HV0 := hid hv0; have HOWN0 := hid hown0; have HX0 := hid hx0; have HM := hid hm
        have hx0l : x0.length ≤ 1000 := by have := HLB.out.2 x0 (List.mem_of_getElem? hx0); omega
        obtain ⟨g0, co1, hov⟩ := own_some HC4.out.out (by omega)
        subst hov
        have HOV := hid HC4.out.out
        have hcell : w4.cell? ⟨g0, m, none⟩ = some (.slice A0 x0.length c0) := (HOV.out.cellAt m (by omega)).trans hv0
        have TO : ∀ q : BW w4.heap.size w4, q.1.cell? ⟨g0, m, none⟩ = some (.slice A0 x0.length c0) := fun q => q.cellAt (HOV.out.lt g0 rfl).2 hcell
        have hmi : (m : Int) < ((m + 1 : Nat) : Int) := by omega
        have hm0 : 0 < (((m + 1 : Nat)) : Int) := by omega
        have hbase4 : w.heap.size ≤ w4.heap.size := HB4.out.size
        have HNG : Hid (∀ k, (Value.slice A0 x0.length c0).ownBlock = some k → k ≠ g0 ∧ k ≠ gx) := fun k hk => ⟨fun e => (HC4.out.sep m _ HV0.out k hk).1 (by rw [e]; rfl), fun e => by have := (HOWN0.out.lt k hk).2; exact absurd e (HNXA.out m _ HV0.out k hk)⟩
        rw [hm] at HC4 HOV ⊢
        clear hcell hx0 hv0 hown0
        go_upto_region 9 with fail
        refine wp_region_ordT w4.heap.size [10, 12] (.val 0 (.val 1 (.val 2 (.val 3 (.val 4 (.val 5 (.val 6 (.val 7 (.op 8 (.op 9 (.op 10 (.val 11 (.op 12 (.nil)))))))))))))) (by kernel_rfl) (by kernel_rfl) ?_
        obtain ⟨wc, hwc⟩ : ∃ W, w4.drewN 1 = W := ⟨_, rfl⟩
        have HBW : Hid (Below w4.heap.size w4 wc) := by rw [← hwc]; exact drewN_below w4 1
        rw [hwc]
        clear hwc
        iterate 7 (refine wpOrdT_val rfl rfl ?_; go_big_quiet_step (fail); refine wpQuiet_nil ?_)
        refine wpOrdT_load rfl rfl (inBW HBW.out) ?_
        go_big_quiet_step (fail)
        refine wpQuiet_nil ?_
        have HIC := HI4.out.below HBW.out HI4.out.lt
        obtain ⟨y0, y1, y2, y3, y4, y5, y6, y7, y8, y9, y10, y11⟩ := fact12 HIC
        have yl := HIC.lt
        refine wpOrdT_op rfl ?_
        go_wp2_with fail
        refine KT.same ?_
        clear y0 y1 y2 y3 y4 y5 y6 y7 y8 y9 y10 y11 yl HIC
        refine wpOrdT_op rfl ?_
        go_wp2_with fail
        refine KT.keep (inBW (HBW.out.alloc HBW.out.size _)) ?_
        refine wpOrdT_op rfl ?_
        have hsc : w.heap.size ≤ wc.heap.size := Nat.le_trans hbase4 HBW.out.size
        go_wp2_with (at_builtin; refine wpList_append1K _ rfl _ _ 22 rfl w.heap.size 72 _ 12 104 Try.underlying22 Try.infoEv rfl (by decide) _ _ _ rfl (own_below HOWN0.out HBW.out) 1 [.int .i64 xkind, .int .i64 xid, .int .i64 xn, .int .i64 xtick, .string xb, .int .i64 xe, .int .i64 xt1, .int .i64 xt2, .int .i64 xt3, .int .i64 xt4, .int .i64 xt5, .int .i64 xt6] rfl rfl rfl ?_ (by decide) hsc ?_)
        · omega
        intro g5 c5 w5 hown5 hk5 hf5
        go_wp2_with fail
        refine KT.past rfl ?_
        have HBC : Hid (Below w.heap.size w wc) := HB4.out.trans (HBW.out.mono hbase4)
        have HB5 : Hid (Below w.heap.size w w5) := HBC.out.trans (hk5.below HBC.out.size (fun k hk => (HOWN0.out.lt k hk).1))
        have HCC := hid (HC4.out.below HBW.out)
        have HOV5 := hid (hk5.own (HCC.out.out) (fun k e h => (HNG.out k h).1 (Option.some.inj e).symm))
        rw [HM.out] at HOV5
        have HK5 := hid hk5
        have HOWN5 := hid hown5
        have HF5 := hid hf5
        have z0 := HOV5.out.frozenAt m
        have zc : w5.cell? ⟨g0, m, none⟩ = some (.slice A0 x0.length c0) := (HOV5.out.cellAt m (by omega)).trans HV0.out
        have hg0 : g0 < w5.heap.size := (HOV5.out.lt g0 rfl).2
        clear hk5 hown5 hf5 TO HBW
        refine wpOrdT_val rfl rfl ?_
        go_big_quiet_step (fail)
        refine wpQuiet_nil ?_
        refine wpOrdT_op rfl ?_
        go_wp2_with fail
        refine KT.past rfl ?_
        refine wpOrdT_nil ?_
        obtain ⟨w6, hw6⟩ : ∃ W, w5.setCell ⟨g0, m, none⟩ (.slice (some ⟨g5, 0, none⟩) (x0.length + 1) c5) = W := ⟨_, rfl⟩
        have HK6 : Hid (Keep (fun k => (Value.slice (some ⟨g0, 0, none⟩) (m + 1) co1).ownBlock = some k) w5 w6) := by rw [← hw6]; exact Keep.setCell _ w5 _ _ rfl
        have HO6 := HOV5.out.stored m (.slice (some ⟨g5, 0, none⟩) (x0.length + 1) c5)
        rw [hw6] at HO6 ⊢
        have HO7 := hid HO6
        have HXC : Hid (evCells (x0 ++ [X]) = evCells x0 ++ [.int .i64 xkind, .int .i64 xid, .int .i64 xn, .int .i64 xtick, .string xb, .int .i64 xe, .int .i64 xt1, .int .i64 xt2, .int .i64 xt3, .int .i64 xt4, .int .i64 xt5, .int .i64 xt6]) := by rw [Hid, evCells_append]; show _ ++ (X.cells ++ []) = _; rw [HCX.out]; rfl
        have HCN := hid (HCC.out.last (x := X) (x0 := x0) (g := g5) (c := c5) m (by rw [HM.out]) HX0.out HV0.out HK5.out (by rw [HXC.out]; exact HOWN5.out) HF5.out HK6.out (by rw [HM.out]; exact HO7.out.1))
        have HB6 : Hid (Below w.heap.size w w6) := HB5.out.trans (HK6.out.below HB5.out.size (fun k hk => by cases hk; exact (HOV.out.lt g0 rfl).1))
        clear HO6 hw6 HO7 z0 zc hg0
        go_wp2_with fail
        go_roundw
        case rel => exact ⟨i + 1, _, by omega, by go_num, by rw [HEQ4.out]; exact HCN.out, HB6.out⟩
        case measure => simp [intOf]; omega
      case inr =>
        have hb1 : (xkind == 1) = false := by rw [beq_eq_false_iff_ne]; exact hk1
        have hb2 : ¬ xkind = 1 := hk1
        have HEQ4 : Hid (cutEvs (l.take (i + 1)) = lastAdd L X) := by rw [Hid, HTK.out, HEX.out, if_neg (show ¬ X.kind = 1 by rw [HKX.out]; exact hk1)]
        clear hk1
        rcases Decidable.em (L = []) with hl0 | hl0
        case inl =>
          subst hl0
          have HE : Hid (cutEvs (l.take (i + 1)) = []) := HEQ4.out
          go_wp2_with fail
          go_roundw
          case rel => exact ⟨i + 1, vs, by omega, by go_num, by rw [HE.out]; exact HC2.out, HB3.out⟩
          case measure => simp [intOf]; omega
        case inr =>
          have HPOS : Hid (0 < L.length) := List.length_pos_iff.2 hl0
          have HLB : Hid (L.length ≤ i + 1 ∧ ∀ r ∈ L, r.length ≤ i) := ⟨by have := HLB0.out.1; omega, HLB0.out.2⟩
          obtain ⟨ov1, hov1⟩ : ∃ y, Value.slice Ao L.length co = y := ⟨_, rfl⟩
          have HOX : Hid (∀ k, ov1.ownBlock = some k → k ≠ gx) := by rw [← hov1]; exact HNX.out
          rw [hov1] at HC2 ⊢
          have HC4 := HC2; have HB4 := HB3; have HI4 := HI2; have HNXA := HNXA0
          obtain ⟨L1, hL1⟩ : ∃ y, y = L := ⟨_, rfl⟩
          obtain ⟨w4, hw4⟩ : ∃ y, y = w2 := ⟨_, rfl⟩
          obtain ⟨vs1, hvs1⟩ : ∃ y, y = vs := ⟨_, rfl⟩
          subst hL1 hw4 hvs1
          clear hl0 hov1 HC2 HB3 HI2 HNX HNXA0 HLB0 HTK HEX i1 i2 i3 i4 i5 i6 i7 i8 i9 i10 i11
          obtain ⟨m, hm⟩ : ∃ m, L1.length = m + 1 := ⟨L1.length - 1, by have := HPOS.out; omega⟩
          have hmb : m ≤ 1001 := by have := HLB.out.1; omega
          have hw64 : IntKind.i64.wrap (((m + 1 : Nat) : Int) - 1) = (m : Int) := by rw [show (((m + 1 : Nat) : Int) - 1) = (m : Int) by omega]; apply IntWalk.i64_in <;> omega
          obtain ⟨x0, hx0⟩ : ∃ x, L1[m]? = some x := ⟨_, List.getElem?_eq_getElem (by omega)⟩
          obtain ⟨A0, c0, hv0, hown0⟩ := HC4.out.row m x0 hx0
          have HV0 := hid hv0; have HOWN0 := hid hown0; have HX0 := hid hx0; have HM := hid hm
          have hx0l : x0.length ≤ 1000 := by have := HLB.out.2 x0 (List.mem_of_getElem? hx0); omega
          obtain ⟨g0, co1, hov⟩ := own_some HC4.out.out (by omega)
          subst hov
          have HOV := hid HC4.out.out
          have hcell : w4.cell? ⟨g0, m, none⟩ = some (.slice A0 x0.length c0) := (HOV.out.cellAt m (by omega)).trans hv0
          have TO : ∀ q : BW w4.heap.size w4, q.1.cell? ⟨g0, m, none⟩ = some (.slice A0 x0.length c0) := fun q => q.cellAt (HOV.out.lt g0 rfl).2 hcell
          have hmi : (m : Int) < ((m + 1 : Nat) : Int) := by omega
          have hm0 : 0 < (((m + 1 : Nat)) : Int) := by omega
          have hbase4 : w.heap.size ≤ w4.heap.size := HB4.out.size
          have HNG : Hid (∀ k, (Value.slice A0 x0.length c0).ownBlock = some k → k ≠ g0 ∧ k ≠ gx) := fun k hk => ⟨fun e => (HC4.out.sep m _ HV0.out k hk).1 (by rw [e]; rfl), fun e => by have := (HOWN0.out.lt k hk).2; exact absurd e (HNXA.out m _ HV0.out k hk)⟩
          rw [hm] at HC4 HOV ⊢
          clear hcell hx0 hv0 hown0
          go_upto_region 9 with fail
          refine wp_region_ordT w4.heap.size [10, 12] (.val 0 (.val 1 (.val 2 (.val 3 (.val 4 (.val 5 (.val 6 (.val 7 (.op 8 (.op 9 (.op 10 (.val 11 (.op 12 (.nil)))))))))))))) (by kernel_rfl) (by kernel_rfl) ?_
          obtain ⟨wc, hwc⟩ : ∃ W, w4.drewN 1 = W := ⟨_, rfl⟩
          have HBW : Hid (Below w4.heap.size w4 wc) := by rw [← hwc]; exact drewN_below w4 1
          rw [hwc]
          clear hwc
          iterate 7 (refine wpOrdT_val rfl rfl ?_; go_big_quiet_step (fail); refine wpQuiet_nil ?_)
          refine wpOrdT_load rfl rfl (inBW HBW.out) ?_
          go_big_quiet_step (fail)
          refine wpQuiet_nil ?_
          have HIC := HI4.out.below HBW.out HI4.out.lt
          obtain ⟨y0, y1, y2, y3, y4, y5, y6, y7, y8, y9, y10, y11⟩ := fact12 HIC
          have yl := HIC.lt
          refine wpOrdT_op rfl ?_
          go_wp2_with fail
          refine KT.same ?_
          clear y0 y1 y2 y3 y4 y5 y6 y7 y8 y9 y10 y11 yl HIC
          refine wpOrdT_op rfl ?_
          go_wp2_with fail
          refine KT.keep (inBW (HBW.out.alloc HBW.out.size _)) ?_
          refine wpOrdT_op rfl ?_
          have hsc : w.heap.size ≤ wc.heap.size := Nat.le_trans hbase4 HBW.out.size
          go_wp2_with (at_builtin; refine wpList_append1K _ rfl _ _ 22 rfl w.heap.size 72 _ 12 104 Try.underlying22 Try.infoEv rfl (by decide) _ _ _ rfl (own_below HOWN0.out HBW.out) 1 [.int .i64 xkind, .int .i64 xid, .int .i64 xn, .int .i64 xtick, .string xb, .int .i64 xe, .int .i64 xt1, .int .i64 xt2, .int .i64 xt3, .int .i64 xt4, .int .i64 xt5, .int .i64 xt6] rfl rfl rfl ?_ (by decide) hsc ?_)
          · omega
          intro g5 c5 w5 hown5 hk5 hf5
          go_wp2_with fail
          refine KT.past rfl ?_
          have HBC : Hid (Below w.heap.size w wc) := HB4.out.trans (HBW.out.mono hbase4)
          have HB5 : Hid (Below w.heap.size w w5) := HBC.out.trans (hk5.below HBC.out.size (fun k hk => (HOWN0.out.lt k hk).1))
          have HCC := hid (HC4.out.below HBW.out)
          have HOV5 := hid (hk5.own (HCC.out.out) (fun k e h => (HNG.out k h).1 (Option.some.inj e).symm))
          rw [HM.out] at HOV5
          have HK5 := hid hk5
          have HOWN5 := hid hown5
          have HF5 := hid hf5
          have z0 := HOV5.out.frozenAt m
          have zc : w5.cell? ⟨g0, m, none⟩ = some (.slice A0 x0.length c0) := (HOV5.out.cellAt m (by omega)).trans HV0.out
          have hg0 : g0 < w5.heap.size := (HOV5.out.lt g0 rfl).2
          clear hk5 hown5 hf5 TO HBW
          refine wpOrdT_val rfl rfl ?_
          go_big_quiet_step (fail)
          refine wpQuiet_nil ?_
          refine wpOrdT_op rfl ?_
          go_wp2_with fail
          refine KT.past rfl ?_
          refine wpOrdT_nil ?_
          obtain ⟨w6, hw6⟩ : ∃ W, w5.setCell ⟨g0, m, none⟩ (.slice (some ⟨g5, 0, none⟩) (x0.length + 1) c5) = W := ⟨_, rfl⟩
          have HK6 : Hid (Keep (fun k => (Value.slice (some ⟨g0, 0, none⟩) (m + 1) co1).ownBlock = some k) w5 w6) := by rw [← hw6]; exact Keep.setCell _ w5 _ _ rfl
          have HO6 := HOV5.out.stored m (.slice (some ⟨g5, 0, none⟩) (x0.length + 1) c5)
          rw [hw6] at HO6 ⊢
          have HO7 := hid HO6
          have HXC : Hid (evCells (x0 ++ [X]) = evCells x0 ++ [.int .i64 xkind, .int .i64 xid, .int .i64 xn, .int .i64 xtick, .string xb, .int .i64 xe, .int .i64 xt1, .int .i64 xt2, .int .i64 xt3, .int .i64 xt4, .int .i64 xt5, .int .i64 xt6]) := by rw [Hid, evCells_append]; show _ ++ (X.cells ++ []) = _; rw [HCX.out]; rfl
          have HCN := hid (HCC.out.last (x := X) (x0 := x0) (g := g5) (c := c5) m (by rw [HM.out]) HX0.out HV0.out HK5.out (by rw [HXC.out]; exact HOWN5.out) HF5.out HK6.out (by rw [HM.out]; exact HO7.out.1))
          have HB6 : Hid (Below w.heap.size w w6) := HB5.out.trans (HK6.out.below HB5.out.size (fun k hk => by cases hk; exact (HOV.out.lt g0 rfl).1))
          clear HO6 hw6 HO7 z0 zc hg0
          go_wp2_with fail
          go_roundw
          case rel => exact ⟨i + 1, _, by omega, by go_num, by rw [HEQ4.out]; exact HCN.out, HB6.out⟩
          case measure => simp [intOf]; omega
    · have HE : Hid (l.take i = l) := List.take_of_length_le (by rw [HL.out]; omega)
      rw [HE.out] at HC
      obtain ⟨Ao, co, hov⟩ := own_slE HC.out.out
      subst hov
      have hi2 : ¬ (i : Int) < (n : Int) := by omega
      go_wp2_with fail
      go_ret
      exact ⟨⟨vs, _, rfl, HC.out⟩, HB.out⟩
end Go.Proofs.Ytpkkfdmhbbipoaa
