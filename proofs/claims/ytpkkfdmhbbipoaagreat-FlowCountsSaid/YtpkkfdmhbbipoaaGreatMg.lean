/- Walks: the reference's Read (a set's text), where it is not the other way round. Walks: the reference's Parse (a pattern's text). -/
import Derived.Test.YtpkkfdmhbbipoaaGreatMf
namespace Go.Proofs.YtpkkfdmhbbipoaaGreat
open Go.RowKit PopT
set_option maxRecDepth 20000 in
set_option maxHeartbeats 8000000 in
theorem readR_one (s : ByteArray) (w : World) (hs : s.size ≤ 1000000) (h91 : isM s 0 91 = true) (h94 : isM s 1 94 = false) (h1 : 1 < s.size) (Q : BSet × Nat × Nat) (hq : rdGo s (s.size + 1) (rdPart s 1).1 (rdPart s 1).2.1 (rdPart s 1).2.2 = Q)
  (hr : readC s = if Q.2.2 = 0 then (Q.1, Q.2.1 + 1, 0) else (BSet.zero, Q.2.1, Q.2.2)) :
  Calls Tryz.prog 224 #[.string s] w fun e w' => e = .returned (.tuple #[(readC s).1.val, .int .i64 ((readC s).2.1 : Nat), .int .i64 ((readC s).2.2 : Nat)]) ∧ Below w.heap.size w w' := by
 have HR := hid hr
 have HQ : Hid (rdGo s (s.size + 1) (orM BSet.zero (rdPart s 1).1) (rdPart s 1).2.1 (rdPart s 1).2.2 = Q) := by rw [Hid, orM_zero]; exact hq
 obtain ⟨h0, hb0⟩ := isM_true h91
 have hby0 := (byteAt_get s 0 h0).symm
 rw [hb0] at hby0
 have hi0 : 1 ≤ s.size := by omega
 have z0 : ¬ s.toList = [] := by
  rw [empty_toList]; intro h
  have h' : s.size = 0 := by have := congrArg List.length h; simpa using this
  omega
 have z1 : s.toList.isEmpty = false := by rw [List.isEmpty_eq_false_iff]; exact z0
 clear h91 hq hr hb0
 have hby1 := (byteAt_get s 1 h1).symm
 have hb1 : byteAt s 1 ≠ 94 := by rw [is_byte s 1 94 h1, beq_eq_false_iff_ne] at h94; exact h94
 obtain ⟨cc, hcc⟩ : ∃ c, byteAt s 1 = c := ⟨_, rfl⟩
 rw [hcc] at hby1 hb1
 have e94 : ((cc : Int) == 94) = false := by rw [beq_eq_false_iff_ne]; omega
 clear h94 hcc
 go_enter Tryz.func224, Tryz.ntmps224
 go_wp2_with fail
 refine (none_any _).mono ?_
 rintro e w1 ⟨A1, c1, rfl, hown, hbl⟩
 simp only [World.size_alloc] at hown hbl
 have hz1 := (Blk.new w 249 #[.int .u64 0, .int .u64 0, .int .u64 0, .int .u64 0]).below hbl (by simp)
 have hb1 := ((Below.refl w.heap.size w).alloc (Nat.le_refl _) (.cells #[.int .u64 0, .int .u64 0, .int .u64 0, .int .u64 0] 249)).trans (hbl.mono (by simp))
 have hsz1 := hbl.size
 simp only [World.size_alloc] at hsz1
 have HZ1 := hid hz1
 obtain ⟨g, cap, hA1, hgb⟩ : ∃ g cap, Value.slice A1 256 c1 = .slice (some ⟨g, 0, none⟩) 256 cap ∧ w.heap.size + 1 ≤ g := by
  rcases hown.2 with ⟨_, h0⟩ | ⟨g, cap, cur, hv, hbg, _⟩
  ·exact absurd h0 (by omega)
  ·exact ⟨g, cap, hv, hbg⟩
 injection hA1 with hA1 _ hc1
 subst hA1 hc1
 clear hbl hz1
 have HO1 : Hid (w1.ownsRow (w.heap.size + 1) 4 1 (.slice (some ⟨g, 0, none⟩) 256 c1) 256 (boolCells (flagsM BSet.zero))) := by rw [Hid, flagsM_zero]; exact hown
 have HB1 := hid hb1
 clear hown hb1
 go_wp2_with fail
 go_loopw [6, 8] (fun iv fv wr => ∃ (i n : Nat) (x : BSet) (fst : Bool), i ≤ s.size ∧ s.size ≤ i + n ∧ iv = .int .i64 (i : Int) ∧ fv = .bool fst ∧
   (if fst = true then rdGo s n (orM x (rdPart s i).1) (rdPart s i).2.1 (rdPart s i).2.2 = Q else rdGo s (n + 1) x i 0 = Q) ∧
   wr.ownsRow (w.heap.size + 1) 4 1 (.slice (some ⟨g, 0, none⟩) 256 c1) 256 (boolCells (flagsM x)) ∧ Blk wr w.heap.size 249 #[.int .u64 0, .int .u64 0, .int .u64 0, .int .u64 0] ∧ Below w.heap.size w wr ∧ w.heap.size + 1 ≤ wr.heap.size) (fun iv _ _ => s.size - (intOf iv).toNat)
 case atStart => exact ⟨1, s.size + 1, BSet.zero, true, hi0, by omega, rfl, rfl, by rw [if_pos rfl]; exact HQ.out, HO1.out, HZ1.out, HB1.out, hsz1⟩
 case round =>
  obtain ⟨i, n, x, fst, hi, hn, rfl, rfl, hgo, hown, hz, hbl, hsz⟩ := hrel
  have HO := hid hown; have HZ := hid hz; have HB := hid hbl; have HGO := hid hgo
  clear hown hz hbl HQ HO1 HZ1 HB1 hsz1 hgo
  cases fst
  ·have HGO2 : Hid (rdGo s (n + 1) x i 0 = Q) := by have := HGO.out; rwa [if_neg (by decide)] at this
   clear HGO
   cases h93 : isM s i 93
   ·have HPX : Hid (rdGo s n (orM x (rdPart s i).1) (rdPart s i).2.1 (rdPart s i).2.2 = Q) := by rw [Hid, ← HGO2.out, rdGo, if_pos ⟨rfl, h93⟩]
    clear HGO2
    rcases isM_false hi h93 with h94' | ⟨h94', h95'⟩
    ·skip
     clear h93
     have hge : s.size ≤ i := by omega
     have e93' : ((i : Int) == (s.size : Int)) = true := by rw [beq_iff_eq]; omega
     clear h94'
     rcases one_sign s i hi with h1 | h1
     ·obtain ⟨-, -, h, h'⟩ := h1
      omega
     ·skip
      obtain ⟨-, n1, ho1, hle1, hr1⟩ := h1
      have HE : Hid (readC s = (BSet.zero, i + n1, stopE s (i + n1))) := by
       have hp : rdPart s i = (spanTo 0 1, i + n1, stopE s (i + n1)) := by
        simp only [rdPart]; rw [hr1]; simp only; rw [if_neg (by rintro ⟨h', -⟩; exact stopE_pos _ _ h')]
       have hq : Q = (orM x (spanTo 0 1), i + n1, stopE s (i + n1)) := by rw [← HPX.out, hp, rdGo_bad _ _ _ _ _ (stopE_pos _ _)]
       rw [Hid, HR.out, hq, if_neg (stopE_pos _ _)]
      have C1 := hid (fun W => one_any (tailOf s i) (by rw [tailOf_size]; omega) W)
      rw [ho1] at C1
      unfold tailOf at C1
      obtain ⟨j1, hj1⟩ : ∃ j, i + n1 = j := ⟨_, rfl⟩
      have hj1' : ((i : Int) + (n1 : Int)) = (j1 : Int) := by omega
      rw [hj1] at HE hle1
      clear hj1 HR HPX
      go_wp2_with fail
      refine (C1.out _).mono ?_
      rintro e w7 ⟨rfl, rfl⟩
      go_wp2_with fail
      refine (stopR_any s j1 hle1 hs _).mono ?_
      rintro e w8 ⟨rfl, hb8⟩
      have HZ8 : Hid (Blk w8 w.heap.size 249 #[.int .u64 0, .int .u64 0, .int .u64 0, .int .u64 0]) := HZ.out.below hb8 HZ.out.lt
      have HB8 : Hid (Below w.heap.size w w8) := HB.out.trans (hb8.mono HB.out.size)
      clear hb8
      obtain ⟨k0, k1, k2, k3, f0, f1, f2, f3⟩ := blk4 HZ8.out
      have HZ9 := hid (blk_put4 (b0 := .int .u64 0) (b1 := .int .u64 0) (b2 := .int .u64 0) (b3 := .int .u64 0) HZ8.out)
      have HB9 := hid (below_put4 (g := w.heap.size) HB8.out (Nat.le_refl _) (.int .u64 0) (.int .u64 0) (.int .u64 0) (.int .u64 0))
      go_wp2_with fail
      obtain ⟨z0, z1, z2, z3, -, -, -, -⟩ := blk4 HZ9.out
      exact bodyPost_ret (v := .tuple #[.agg #[.int .u64 0, .int .u64 0, .int .u64 0, .int .u64 0], .int .i64 (j1 : Int), .int .i64 (stopE s j1 : Nat)]) (by simp [results, Tryz.results224, go_sem, z0, z1, z2, z3]) rfl ⟨by rw [HE.out]; rfl, HB9.out⟩
    ·have hby9 := (byteAt_get s i h94').symm
     obtain ⟨cb0, hcb0⟩ : ∃ c, byteAt s i = c := ⟨_, rfl⟩
     rw [hcb0] at hby9 h95'
     have e93 : ((cb0 : Int) == 93) = false := by rw [beq_eq_false_iff_ne]; omega
     have e93' : ((i : Int) == (s.size : Int)) = false := by rw [beq_eq_false_iff_ne]; omega
     clear hcb0 h93
     rcases one_sign s i hi with h1 | h1
     ·obtain ⟨he1, ho1, hlt1, hi1s⟩ := h1
      obtain ⟨⟨a, i1, e1⟩, hr1⟩ : ∃ t, rdSign s i 0 = t := ⟨_, rfl⟩
      have ha256 : a < 256 := by have := rdSign_byte s i 0; rw [hr1] at this; exact this
      rw [hr1] at he1 ho1 hlt1 hi1s
      simp only at he1 ho1 hlt1 hi1s
      subst he1
      obtain ⟨n', hn'⟩ : ∃ n', n = n' + 1 := ⟨n - 1, by omega⟩
      subst hn'
      have HNX := HPX
      have C1 := hid (fun W => one_any (tailOf s i) (by rw [tailOf_size]; omega) W)
      rw [ho1] at C1
      unfold tailOf at C1
      obtain ⟨d1, hd1⟩ : ∃ d, i1 - i = d := ⟨_, rfl⟩
      have hd1' : ((i : Int) + (d1 : Int)) = (i1 : Int) := by omega
      rw [hd1] at C1
      clear hd1 ho1
      cases h45 : isM s i1 45
      ·rcases isM_false hi1s h45 with h46 | ⟨h46, h47⟩
       ·skip
        have HNX2 : Hid (rdGo s (n' + 1) (orM x (spanTo a (a + 1 - a))) i1 0 = Q) := by
         have hp : rdPart s i = (spanTo a 1, i1, 0) := by
          simp only [rdPart]; rw [hr1]; simp only; rw [if_neg (by rw [h45]; simp)]
         rw [Hid, ← HNX.out, hp, Nat.add_sub_cancel_left]
        have HLE : Hid (i1 ≤ s.size) := hi1s
        have HLT : Hid (i < i1 ∧ i < s.size ∧ s.size ≤ i + (n' + 1)) := ⟨by omega, by omega, by omega⟩
        clear HNX HR HPX h45 hr1
        have HNX := HNX2
        clear HNX2
        subst h46
        go_wp2_with fail
        refine (C1.out _).mono ?_
        rintro e w7 ⟨rfl, rfl⟩
        obtain ⟨wo, hwo⟩ : ∃ wo : World, wo = wr := ⟨_, rfl⟩
        rw [← hwo] at HO HZ HB ⊢
        have hs2 : w.heap.size + 1 ≤ wo.heap.size := by rw [hwo]; exact hsz
        clear hwo hsz
        go_wp2_with fail
        go_loopw [13] (fun jv wr2 => ∃ (k : Nat), a + k ≤ a + 1 ∧ jv = .int .i64 ((a + k : Nat) : Int) ∧ wr2.ownsRow (w.heap.size + 1) 4 1 (.slice (some ⟨g, 0, none⟩) 256 c1) 256 (boolCells (flagsM (orM x (spanTo a k)))) ∧
          Blk wr2 w.heap.size 249 #[.int .u64 0, .int .u64 0, .int .u64 0, .int .u64 0] ∧ Below w.heap.size w wr2 ∧ w.heap.size + 1 ≤ wr2.heap.size) (fun jv _ => a + 1 - (intOf jv).toNat)
        case atStart => exact ⟨0, by omega, rfl, by rw [orM_none]; exact HO.out, HZ.out, HB.out, hs2⟩
        case round =>
         obtain ⟨k, hk, rfl, ho2, hz2, hb2, hsz2⟩ := hrel
         have HZ2 := hid hz2; have HB2 := hid hb2
         clear hz2 hb2 HO HZ HB hs2
         have hol : (boolCells (flagsM (orM x (spanTo a k)))).length = 256 := by rw [boolCells_length, flagsM_length]
         by_cases hlt : a + k ≤ a
         ·have hby : a + k < 256 := by omega
          obtain ⟨u, hu⟩ : ∃ u, (boolCells (flagsM (orM x (spanTo a k))))[a + k]? = some u := ⟨_, List.getElem?_eq_getElem (by rw [hol]; exact hby)⟩
          have hcl : wr.cell? ⟨g, a + k, none⟩ = some u := by rw [ho2.cellAt _ (by omega)]; exact hu
          have hfr := ho2.frozenAt (a + k)
          have HST := hid (ho2.stored (a + k) (.bool true))
          have HPU : Hid ((boolCells (flagsM (orM x (spanTo a k)))).set (a + k) (.bool true) = boolCells (flagsM (orM x (spanTo a (k + 1))))) := by rw [Hid, ← orM_put x a k hby, ← flagsM_put _ _ hby, boolCells_set]
          obtain ⟨i9, hi9⟩ : ∃ i, a + k = i := ⟨_, rfl⟩
          rw [hi9] at hcl hfr HST hlt HPU hby ⊢
          have HI9 := hid hi9
          clear ho2 hol hi9 hu
          go_wp2_with fail
          go_roundw
          case rel =>
           refine ⟨k + 1, by have := HI9.out; omega, by have := HI9.out; go_num, ?_, HZ2.out.set_far (by omega), HB2.out.setCell (by simp; omega) _, by simpa using hsz2⟩
           rw [← HPU.out]; exact HST.out.1
          case measure => simp [intOf]; omega
         ·have hkk : k = a + 1 - a := by omega
          have HO2 : Hid (wr.ownsRow (w.heap.size + 1) 4 1 (.slice (some ⟨g, 0, none⟩) 256 c1) 256 (boolCells (flagsM (orM x (spanTo a (a + 1 - a)))))) := by rw [Hid, ← hkk]; exact ho2
          clear ho2 hol hkk
          go_wp2_with fail
          go_roundw
          case rel => exact ⟨s.size, n', orM x (spanTo a (a + 1 - a)), false, HLE.out, by have := HLT.out; omega, rfl, rfl, HNX.out, HO2.out, HZ2.out, HB2.out, hsz2⟩
          case measure => have := HLT.out; simp [intOf]; omega
       ·skip
        have HNX2 : Hid (rdGo s (n' + 1) (orM x (spanTo a (a + 1 - a))) i1 0 = Q) := by
         have hp : rdPart s i = (spanTo a 1, i1, 0) := by
          simp only [rdPart]; rw [hr1]; simp only; rw [if_neg (by rw [h45]; simp)]
         rw [Hid, ← HNX.out, hp, Nat.add_sub_cancel_left]
        have HLE : Hid (i1 ≤ s.size) := hi1s
        have HLT : Hid (i < i1 ∧ i < s.size ∧ s.size ≤ i + (n' + 1)) := ⟨by omega, by omega, by omega⟩
        clear HNX HR HPX h45 hr1
        have HNX := HNX2
        clear HNX2
        have hby1 := (byteAt_get s i1 h46).symm
        obtain ⟨cb, hcb⟩ : ∃ c, byteAt s i1 = c := ⟨_, rfl⟩
        rw [hcb] at hby1 h47
        have e45 : ((cb : Int) == 45) = false := by rw [beq_eq_false_iff_ne]; omega
        clear hcb
        go_wp2_with fail
        refine (C1.out _).mono ?_
        rintro e w7 ⟨rfl, rfl⟩
        obtain ⟨wo, hwo⟩ : ∃ wo : World, wo = wr := ⟨_, rfl⟩
        rw [← hwo] at HO HZ HB ⊢
        have hs2 : w.heap.size + 1 ≤ wo.heap.size := by rw [hwo]; exact hsz
        clear hwo hsz
        go_wp2_with fail
        go_loopw [13] (fun jv wr2 => ∃ (k : Nat), a + k ≤ a + 1 ∧ jv = .int .i64 ((a + k : Nat) : Int) ∧ wr2.ownsRow (w.heap.size + 1) 4 1 (.slice (some ⟨g, 0, none⟩) 256 c1) 256 (boolCells (flagsM (orM x (spanTo a k)))) ∧
          Blk wr2 w.heap.size 249 #[.int .u64 0, .int .u64 0, .int .u64 0, .int .u64 0] ∧ Below w.heap.size w wr2 ∧ w.heap.size + 1 ≤ wr2.heap.size) (fun jv _ => a + 1 - (intOf jv).toNat)
        case atStart => exact ⟨0, by omega, rfl, by rw [orM_none]; exact HO.out, HZ.out, HB.out, hs2⟩
        case round =>
         obtain ⟨k, hk, rfl, ho2, hz2, hb2, hsz2⟩ := hrel
         have HZ2 := hid hz2; have HB2 := hid hb2
         clear hz2 hb2 HO HZ HB hs2
         have hol : (boolCells (flagsM (orM x (spanTo a k)))).length = 256 := by rw [boolCells_length, flagsM_length]
         by_cases hlt : a + k ≤ a
         ·have hby : a + k < 256 := by omega
          obtain ⟨u, hu⟩ : ∃ u, (boolCells (flagsM (orM x (spanTo a k))))[a + k]? = some u := ⟨_, List.getElem?_eq_getElem (by rw [hol]; exact hby)⟩
          have hcl : wr.cell? ⟨g, a + k, none⟩ = some u := by rw [ho2.cellAt _ (by omega)]; exact hu
          have hfr := ho2.frozenAt (a + k)
          have HST := hid (ho2.stored (a + k) (.bool true))
          have HPU : Hid ((boolCells (flagsM (orM x (spanTo a k)))).set (a + k) (.bool true) = boolCells (flagsM (orM x (spanTo a (k + 1))))) := by rw [Hid, ← orM_put x a k hby, ← flagsM_put _ _ hby, boolCells_set]
          obtain ⟨i9, hi9⟩ : ∃ i, a + k = i := ⟨_, rfl⟩
          rw [hi9] at hcl hfr HST hlt HPU hby ⊢
          have HI9 := hid hi9
          clear ho2 hol hi9 hu
          go_wp2_with fail
          go_roundw
          case rel =>
           refine ⟨k + 1, by have := HI9.out; omega, by have := HI9.out; go_num, ?_, HZ2.out.set_far (by omega), HB2.out.setCell (by simp; omega) _, by simpa using hsz2⟩
           rw [← HPU.out]; exact HST.out.1
          case measure => simp [intOf]; omega
         ·have hkk : k = a + 1 - a := by omega
          have HO2 : Hid (wr.ownsRow (w.heap.size + 1) 4 1 (.slice (some ⟨g, 0, none⟩) 256 c1) 256 (boolCells (flagsM (orM x (spanTo a (a + 1 - a)))))) := by rw [Hid, ← hkk]; exact ho2
          clear ho2 hol hkk
          go_wp2_with fail
          go_roundw
          case rel => exact ⟨i1, n', orM x (spanTo a (a + 1 - a)), false, HLE.out, by have := HLT.out; omega, rfl, rfl, HNX.out, HO2.out, HZ2.out, HB2.out, hsz2⟩
          case measure => have := HLT.out; simp [intOf]; omega
      ·obtain ⟨h46, h47⟩ := isM_true h45
       have hby1 := (byteAt_get s i1 h46).symm
       rw [h47] at hby1
       go_wp2_with fail
       refine (C1.out _).mono ?_
       rintro e w7 ⟨rfl, rfl⟩
       rcases one_sign s (i1 + 1) (by omega) with h2 | h2
       ·obtain ⟨he2, ho2, hlt2, hi2s⟩ := h2
        obtain ⟨⟨b, i2, e2⟩, hr2⟩ : ∃ t, rdSign s (i1 + 1) 0 = t := ⟨_, rfl⟩
        have hb256 : b < 256 := by have := rdSign_byte s (i1 + 1) 0; rw [hr2] at this; exact this
        rw [hr2] at he2 ho2 hlt2 hi2s
        simp only at he2 ho2 hlt2 hi2s
        subst he2
        have C2 := hid (fun W => one_any (tailOf s (i1 + 1)) (by rw [tailOf_size]; omega) W)
        rw [ho2] at C2
        unfold tailOf at C2
        obtain ⟨j1, hj1⟩ : ∃ j, i1 + 1 = j := ⟨_, rfl⟩
        have hj1' : ((i1 : Int) + 1) = (j1 : Int) := by omega
        have hj1s : j1 ≤ s.size := by omega
        obtain ⟨d2, hd2⟩ : ∃ d, i2 - j1 = d := ⟨_, rfl⟩
        have hd2' : ((j1 : Int) + (d2 : Int)) = (i2 : Int) := by omega
        rw [hj1, hd2] at C2
        have HJ1 := hid hj1
        clear hd2 hj1 ho2
        by_cases hba : b < a
        ·skip
         have HE : Hid (readC s = (BSet.zero, i2 - 1, 12)) := by
          have hp : rdPart s i = (spanTo a (b + 1 - a), i2 - 1, 12) := by
           simp only [rdPart]; rw [hr1]; simp only; rw [if_pos ⟨trivial, h45⟩, hr2]; simp only; rw [if_pos ⟨trivial, hba⟩]
          have hq : Q = (orM x (spanTo a (b + 1 - a)), i2 - 1, 12) := by rw [← HNX.out, hp, rdGo_bad _ _ _ _ _ (show (12 : Nat) ≠ 0 by decide)]
          rw [Hid, HR.out, hq, if_neg (show ¬ (12 : Nat) = 0 by decide)]
         obtain ⟨j3, hj3⟩ : ∃ j, i2 - 1 = j := ⟨_, rfl⟩
         have hj3' : ((i2 : Int) - 1) = (j3 : Int) := by omega
         rw [hj3] at HE
         clear hj3 HNX HR HPX
         go_wp2_with fail
         refine (C2.out _).mono ?_
         rintro e w7 ⟨rfl, rfl⟩
         obtain ⟨k0, k1, k2, k3, f0, f1, f2, f3⟩ := blk4 HZ.out
         have HZ9 := hid (blk_put4 (b0 := .int .u64 0) (b1 := .int .u64 0) (b2 := .int .u64 0) (b3 := .int .u64 0) HZ.out)
         have HB9 := hid (below_put4 (g := w.heap.size) HB.out (Nat.le_refl _) (.int .u64 0) (.int .u64 0) (.int .u64 0) (.int .u64 0))
         go_wp2_with fail
         obtain ⟨z0, z1, z2, z3, -, -, -, -⟩ := blk4 HZ9.out
         exact bodyPost_ret (v := .tuple #[.agg #[.int .u64 0, .int .u64 0, .int .u64 0, .int .u64 0], .int .i64 (j3 : Int), .int .i64 12]) (by simp [results, Tryz.results224, go_sem, z0, z1, z2, z3]) rfl ⟨by rw [HE.out]; rfl, HB9.out⟩
        ·skip
         have HNX2 : Hid (rdGo s (n' + 1) (orM x (spanTo a (b + 1 - a))) i2 0 = Q) := by
          have hp : rdPart s i = (spanTo a (b + 1 - a), i2, 0) := by
           simp only [rdPart]; rw [hr1]; simp only; rw [if_pos ⟨trivial, h45⟩, hr2]; simp only; rw [if_neg (by rintro ⟨-, h'⟩; exact hba h')]
          rw [Hid, ← HNX.out, hp]
         have HLE : Hid (i2 ≤ s.size) := hi2s
         have HLT : Hid (i < i2 ∧ i < s.size ∧ s.size ≤ i + (n' + 1)) := ⟨by omega, by omega, by omega⟩
         clear HNX HR HPX
         have HNX := HNX2
         clear HNX2
         go_wp2_with fail
         refine (C2.out _).mono ?_
         rintro e w7 ⟨rfl, rfl⟩
         obtain ⟨wo, hwo⟩ : ∃ wo : World, wo = wr := ⟨_, rfl⟩
         rw [← hwo] at HO HZ HB ⊢
         have hs2 : w.heap.size + 1 ≤ wo.heap.size := by rw [hwo]; exact hsz
         clear hwo hsz
         go_wp2_with fail
         go_loopw [13] (fun jv wr2 => ∃ (k : Nat), a + k ≤ b + 1 ∧ jv = .int .i64 ((a + k : Nat) : Int) ∧ wr2.ownsRow (w.heap.size + 1) 4 1 (.slice (some ⟨g, 0, none⟩) 256 c1) 256 (boolCells (flagsM (orM x (spanTo a k)))) ∧
           Blk wr2 w.heap.size 249 #[.int .u64 0, .int .u64 0, .int .u64 0, .int .u64 0] ∧ Below w.heap.size w wr2 ∧ w.heap.size + 1 ≤ wr2.heap.size) (fun jv _ => b + 1 - (intOf jv).toNat)
         case atStart => exact ⟨0, by omega, rfl, by rw [orM_none]; exact HO.out, HZ.out, HB.out, hs2⟩
         case round =>
          obtain ⟨k, hk, rfl, ho2, hz2, hb2, hsz2⟩ := hrel
          have HZ2 := hid hz2; have HB2 := hid hb2
          clear hz2 hb2 HO HZ HB hs2
          have hol : (boolCells (flagsM (orM x (spanTo a k)))).length = 256 := by rw [boolCells_length, flagsM_length]
          by_cases hlt : a + k ≤ b
          ·have hby : a + k < 256 := by omega
           obtain ⟨u, hu⟩ : ∃ u, (boolCells (flagsM (orM x (spanTo a k))))[a + k]? = some u := ⟨_, List.getElem?_eq_getElem (by rw [hol]; exact hby)⟩
           have hcl : wr.cell? ⟨g, a + k, none⟩ = some u := by rw [ho2.cellAt _ (by omega)]; exact hu
           have hfr := ho2.frozenAt (a + k)
           have HST := hid (ho2.stored (a + k) (.bool true))
           have HPU : Hid ((boolCells (flagsM (orM x (spanTo a k)))).set (a + k) (.bool true) = boolCells (flagsM (orM x (spanTo a (k + 1))))) := by rw [Hid, ← orM_put x a k hby, ← flagsM_put _ _ hby, boolCells_set]
           obtain ⟨i9, hi9⟩ : ∃ i, a + k = i := ⟨_, rfl⟩
           rw [hi9] at hcl hfr HST hlt HPU hby ⊢
           have HI9 := hid hi9
           clear ho2 hol hi9 hu
           go_wp2_with fail
           go_roundw
           case rel =>
            refine ⟨k + 1, by have := HI9.out; omega, by have := HI9.out; go_num, ?_, HZ2.out.set_far (by omega), HB2.out.setCell (by simp; omega) _, by simpa using hsz2⟩
            rw [← HPU.out]; exact HST.out.1
           case measure => simp [intOf]; omega
          ·have hkk : k = b + 1 - a := by omega
           have HO2 : Hid (wr.ownsRow (w.heap.size + 1) 4 1 (.slice (some ⟨g, 0, none⟩) 256 c1) 256 (boolCells (flagsM (orM x (spanTo a (b + 1 - a)))))) := by rw [Hid, ← hkk]; exact ho2
           clear ho2 hol hkk
           go_wp2_with fail
           go_roundw
           case rel => exact ⟨i2, n', orM x (spanTo a (b + 1 - a)), false, HLE.out, by have := HLT.out; omega, rfl, rfl, HNX.out, HO2.out, HZ2.out, HB2.out, hsz2⟩
           case measure => have := HLT.out; simp [intOf]; omega
       ·skip
        obtain ⟨-, n2, ho2, hle2, hr2⟩ := h2
        have HE : Hid (readC s = (BSet.zero, i1 + 1 + n2, stopE s (i1 + 1 + n2))) := by
         have hp : rdPart s i = (spanTo a (0 + 1 - a), i1 + 1 + n2, stopE s (i1 + 1 + n2)) := by
          simp only [rdPart]; rw [hr1]; simp only; rw [if_pos ⟨trivial, h45⟩, hr2, if_neg (by rintro ⟨h', -⟩; exact stopE_pos _ _ h')]
         have hq : Q = (orM x (spanTo a (0 + 1 - a)), i1 + 1 + n2, stopE s (i1 + 1 + n2)) := by rw [← HNX.out, hp, rdGo_bad _ _ _ _ _ (stopE_pos _ _)]
         rw [Hid, HR.out, hq, if_neg (stopE_pos _ _)]
        have C2 := hid (fun W => one_any (tailOf s (i1 + 1)) (by rw [tailOf_size]; omega) W)
        rw [ho2] at C2
        unfold tailOf at C2
        obtain ⟨j1, hj1⟩ : ∃ j, i1 + 1 = j := ⟨_, rfl⟩
        have hj1' : ((i1 : Int) + 1) = (j1 : Int) := by omega
        obtain ⟨j2, hj2⟩ : ∃ j, j1 + n2 = j := ⟨_, rfl⟩
        have hj2' : ((j1 : Int) + (n2 : Int)) = (j2 : Int) := by omega
        rw [hj1] at C2 HE hle2
        rw [hj2] at HE hle2
        have hj1s : j1 ≤ s.size := by omega
        clear hj1 hj2 HNX HR HPX
        go_wp2_with fail
        refine (C2.out _).mono ?_
        rintro e w7 ⟨rfl, rfl⟩
        go_wp2_with fail
        refine (stopR_any s j2 hle2 hs _).mono ?_
        rintro e w8 ⟨rfl, hb8⟩
        have HZ8 : Hid (Blk w8 w.heap.size 249 #[.int .u64 0, .int .u64 0, .int .u64 0, .int .u64 0]) := HZ.out.below hb8 HZ.out.lt
        have HB8 : Hid (Below w.heap.size w w8) := HB.out.trans (hb8.mono HB.out.size)
        clear hb8
        obtain ⟨k0, k1, k2, k3, f0, f1, f2, f3⟩ := blk4 HZ8.out
        have HZ9 := hid (blk_put4 (b0 := .int .u64 0) (b1 := .int .u64 0) (b2 := .int .u64 0) (b3 := .int .u64 0) HZ8.out)
        have HB9 := hid (below_put4 (g := w.heap.size) HB8.out (Nat.le_refl _) (.int .u64 0) (.int .u64 0) (.int .u64 0) (.int .u64 0))
        go_wp2_with fail
        obtain ⟨z0, z1, z2, z3, -, -, -, -⟩ := blk4 HZ9.out
        exact bodyPost_ret (v := .tuple #[.agg #[.int .u64 0, .int .u64 0, .int .u64 0, .int .u64 0], .int .i64 (j2 : Int), .int .i64 (stopE s j2 : Nat)]) (by simp [results, Tryz.results224, go_sem, z0, z1, z2, z3]) rfl ⟨by rw [HE.out]; rfl, HB9.out⟩
     ·skip
      obtain ⟨-, n1, ho1, hle1, hr1⟩ := h1
      have HE : Hid (readC s = (BSet.zero, i + n1, stopE s (i + n1))) := by
       have hp : rdPart s i = (spanTo 0 1, i + n1, stopE s (i + n1)) := by
        simp only [rdPart]; rw [hr1]; simp only; rw [if_neg (by rintro ⟨h', -⟩; exact stopE_pos _ _ h')]
       have hq : Q = (orM x (spanTo 0 1), i + n1, stopE s (i + n1)) := by rw [← HPX.out, hp, rdGo_bad _ _ _ _ _ (stopE_pos _ _)]
       rw [Hid, HR.out, hq, if_neg (stopE_pos _ _)]
      have C1 := hid (fun W => one_any (tailOf s i) (by rw [tailOf_size]; omega) W)
      rw [ho1] at C1
      unfold tailOf at C1
      obtain ⟨j1, hj1⟩ : ∃ j, i + n1 = j := ⟨_, rfl⟩
      have hj1' : ((i : Int) + (n1 : Int)) = (j1 : Int) := by omega
      rw [hj1] at HE hle1
      clear hj1 HR HPX
      go_wp2_with fail
      refine (C1.out _).mono ?_
      rintro e w7 ⟨rfl, rfl⟩
      go_wp2_with fail
      refine (stopR_any s j1 hle1 hs _).mono ?_
      rintro e w8 ⟨rfl, hb8⟩
      have HZ8 : Hid (Blk w8 w.heap.size 249 #[.int .u64 0, .int .u64 0, .int .u64 0, .int .u64 0]) := HZ.out.below hb8 HZ.out.lt
      have HB8 : Hid (Below w.heap.size w w8) := HB.out.trans (hb8.mono HB.out.size)
      clear hb8
      obtain ⟨k0, k1, k2, k3, f0, f1, f2, f3⟩ := blk4 HZ8.out
      have HZ9 := hid (blk_put4 (b0 := .int .u64 0) (b1 := .int .u64 0) (b2 := .int .u64 0) (b3 := .int .u64 0) HZ8.out)
      have HB9 := hid (below_put4 (g := w.heap.size) HB8.out (Nat.le_refl _) (.int .u64 0) (.int .u64 0) (.int .u64 0) (.int .u64 0))
      go_wp2_with fail
      obtain ⟨z0, z1, z2, z3, -, -, -, -⟩ := blk4 HZ9.out
      exact bodyPost_ret (v := .tuple #[.agg #[.int .u64 0, .int .u64 0, .int .u64 0, .int .u64 0], .int .i64 (j1 : Int), .int .i64 (stopE s j1 : Nat)]) (by simp [results, Tryz.results224, go_sem, z0, z1, z2, z3]) rfl ⟨by rw [HE.out]; rfl, HB9.out⟩
   ·have HE : Hid (Q = (x, i, 0)) := by rw [Hid, ← HGO2.out, rdGo_shut s (n + 1) x i 0 h93]
    obtain ⟨h94', h95'⟩ := isM_true h93
    have hby9 := (byteAt_get s i h94').symm
    rw [h95'] at hby9
    have e93' : ((i : Int) == (s.size : Int)) = false := by rw [beq_eq_false_iff_ne]; omega
    have HRR : Hid (readC s = (x, i + 1, 0)) := by rw [Hid, HR.out, HE.out]; rfl
    have HMK := hid (make_any (some ⟨g, 0, none⟩) c1 (flagsM x) wr (flagsM_length x) (Rd_of_own HO.out))
    rw [makeM_flags] at HMK
    obtain ⟨j, hj⟩ : ∃ j, i + 1 = j := ⟨_, rfl⟩
    have hj' : ((i : Int) + 1) = (j : Int) := by omega
    rw [hj] at HRR
    clear HE HGO2 h93 hj HR HO
    unfold BSet.val at *
    go_wp2_with fail
    refine HMK.out.mono ?_
    rintro e w4 ⟨rfl, hb4⟩
    have HZ4 : Hid (Blk w4 w.heap.size 249 #[.int .u64 0, .int .u64 0, .int .u64 0, .int .u64 0]) := HZ.out.below hb4 HZ.out.lt
    have HB4 : Hid (Below w.heap.size w w4) := HB.out.trans (hb4.mono HB.out.size)
    have hlt4 := HZ4.out.lt
    clear hb4 HMK HZ HB
    have HX5 := hid (Blk.new w4 249 #[w64 x.w0, w64 x.w1, w64 x.w2, w64 x.w3])
    have HZ5 : Hid (Blk (w4.alloc (.cells #[w64 x.w0, w64 x.w1, w64 x.w2, w64 x.w3] 249)) w.heap.size 249 #[.int .u64 0, .int .u64 0, .int .u64 0, .int .u64 0]) := HZ4.out.alloc _
    have HB5 : Hid (Below w.heap.size w (w4.alloc (.cells #[w64 x.w0, w64 x.w1, w64 x.w2, w64 x.w3] 249))) := HB4.out.alloc HB4.out.size _
    obtain ⟨X, hX⟩ : ∃ X, w4.heap.size = X := ⟨_, rfl⟩
    rw [hX] at HX5 hlt4
    go_upto_region 26 with fail
    obtain ⟨w5, hw5⟩ : ∃ w5, w4.alloc (.cells #[w64 x.w0, w64 x.w1, w64 x.w2, w64 x.w3] 249) = w5 := ⟨_, rfl⟩
    rw [hw5] at HX5 HZ5 HB5 ⊢
    clear hw5 HZ4 HB4
    obtain ⟨x0, x1, x2, x3, p0, p1, p2, p3⟩ := blk4 HX5.out
    obtain ⟨k0, k1, k2, k3, f0, f1, f2, f3⟩ := blk4 HZ5.out
    have HZ9 := hid (blk_put4 (b0 := w64 x.w0) (b1 := w64 x.w1) (b2 := w64 x.w2) (b3 := w64 x.w3) HZ5.out)
    have HB9 := hid (below_put4 (g := w.heap.size) HB5.out (Nat.le_refl _) (w64 x.w0) (w64 x.w1) (w64 x.w2) (w64 x.w3))
    go_wp2_with fail
    obtain ⟨z0, z1, z2, z3, -, -, -, -⟩ := blk4 HZ9.out
    exact bodyPost_ret (v := .tuple #[.agg #[w64 x.w0, w64 x.w1, w64 x.w2, w64 x.w3], .int .i64 (j : Int), .int .i64 0]) (by simp [results, Tryz.results224, go_sem, z0, z1, z2, z3]) rfl ⟨by rw [HRR.out]; rfl, HB9.out⟩
  ·have HPX : Hid (rdGo s n (orM x (rdPart s i).1) (rdPart s i).2.1 (rdPart s i).2.2 = Q) := by have := HGO.out; rwa [if_pos rfl] at this
   clear HGO
   by_cases hisz : i = s.size
   ·skip
    have hge : s.size ≤ i := by omega
    clear hisz
    rcases one_sign s i hi with h1 | h1
    ·obtain ⟨-, -, h, h'⟩ := h1
     omega
    ·skip
     obtain ⟨-, n1, ho1, hle1, hr1⟩ := h1
     have HE : Hid (readC s = (BSet.zero, i + n1, stopE s (i + n1))) := by
      have hp : rdPart s i = (spanTo 0 1, i + n1, stopE s (i + n1)) := by
       simp only [rdPart]; rw [hr1]; simp only; rw [if_neg (by rintro ⟨h', -⟩; exact stopE_pos _ _ h')]
      have hq : Q = (orM x (spanTo 0 1), i + n1, stopE s (i + n1)) := by rw [← HPX.out, hp, rdGo_bad _ _ _ _ _ (stopE_pos _ _)]
      rw [Hid, HR.out, hq, if_neg (stopE_pos _ _)]
     have C1 := hid (fun W => one_any (tailOf s i) (by rw [tailOf_size]; omega) W)
     rw [ho1] at C1
     unfold tailOf at C1
     obtain ⟨j1, hj1⟩ : ∃ j, i + n1 = j := ⟨_, rfl⟩
     have hj1' : ((i : Int) + (n1 : Int)) = (j1 : Int) := by omega
     rw [hj1] at HE hle1
     clear hj1 HR HPX
     go_wp2_with fail
     refine (C1.out _).mono ?_
     rintro e w7 ⟨rfl, rfl⟩
     go_wp2_with fail
     refine (stopR_any s j1 hle1 hs _).mono ?_
     rintro e w8 ⟨rfl, hb8⟩
     have HZ8 : Hid (Blk w8 w.heap.size 249 #[.int .u64 0, .int .u64 0, .int .u64 0, .int .u64 0]) := HZ.out.below hb8 HZ.out.lt
     have HB8 : Hid (Below w.heap.size w w8) := HB.out.trans (hb8.mono HB.out.size)
     clear hb8
     obtain ⟨k0, k1, k2, k3, f0, f1, f2, f3⟩ := blk4 HZ8.out
     have HZ9 := hid (blk_put4 (b0 := .int .u64 0) (b1 := .int .u64 0) (b2 := .int .u64 0) (b3 := .int .u64 0) HZ8.out)
     have HB9 := hid (below_put4 (g := w.heap.size) HB8.out (Nat.le_refl _) (.int .u64 0) (.int .u64 0) (.int .u64 0) (.int .u64 0))
     go_wp2_with fail
     obtain ⟨z0, z1, z2, z3, -, -, -, -⟩ := blk4 HZ9.out
     exact bodyPost_ret (v := .tuple #[.agg #[.int .u64 0, .int .u64 0, .int .u64 0, .int .u64 0], .int .i64 (j1 : Int), .int .i64 (stopE s j1 : Nat)]) (by simp [results, Tryz.results224, go_sem, z0, z1, z2, z3]) rfl ⟨by rw [HE.out]; rfl, HB9.out⟩
   ·have h94' : i < s.size := by omega
    rcases one_sign s i hi with h1 | h1
    ·obtain ⟨he1, ho1, hlt1, hi1s⟩ := h1
     obtain ⟨⟨a, i1, e1⟩, hr1⟩ : ∃ t, rdSign s i 0 = t := ⟨_, rfl⟩
     have ha256 : a < 256 := by have := rdSign_byte s i 0; rw [hr1] at this; exact this
     rw [hr1] at he1 ho1 hlt1 hi1s
     simp only at he1 ho1 hlt1 hi1s
     subst he1
     obtain ⟨n', hn'⟩ : ∃ n', n = n' + 1 := ⟨n - 1, by omega⟩
     subst hn'
     have HNX := HPX
     have C1 := hid (fun W => one_any (tailOf s i) (by rw [tailOf_size]; omega) W)
     rw [ho1] at C1
     unfold tailOf at C1
     obtain ⟨d1, hd1⟩ : ∃ d, i1 - i = d := ⟨_, rfl⟩
     have hd1' : ((i : Int) + (d1 : Int)) = (i1 : Int) := by omega
     rw [hd1] at C1
     clear hd1 ho1
     cases h45 : isM s i1 45
     ·rcases isM_false hi1s h45 with h46 | ⟨h46, h47⟩
      ·skip
       have HNX2 : Hid (rdGo s (n' + 1) (orM x (spanTo a (a + 1 - a))) i1 0 = Q) := by
        have hp : rdPart s i = (spanTo a 1, i1, 0) := by
         simp only [rdPart]; rw [hr1]; simp only; rw [if_neg (by rw [h45]; simp)]
        rw [Hid, ← HNX.out, hp, Nat.add_sub_cancel_left]
       have HLE : Hid (i1 ≤ s.size) := hi1s
       have HLT : Hid (i < i1 ∧ i < s.size ∧ s.size ≤ i + (n' + 1)) := ⟨by omega, by omega, by omega⟩
       clear HNX HR HPX h45 hr1
       have HNX := HNX2
       clear HNX2
       subst h46
       go_wp2_with fail
       refine (C1.out _).mono ?_
       rintro e w7 ⟨rfl, rfl⟩
       obtain ⟨wo, hwo⟩ : ∃ wo : World, wo = wr := ⟨_, rfl⟩
       rw [← hwo] at HO HZ HB ⊢
       have hs2 : w.heap.size + 1 ≤ wo.heap.size := by rw [hwo]; exact hsz
       clear hwo hsz
       go_wp2_with fail
       go_loopw [13] (fun jv wr2 => ∃ (k : Nat), a + k ≤ a + 1 ∧ jv = .int .i64 ((a + k : Nat) : Int) ∧ wr2.ownsRow (w.heap.size + 1) 4 1 (.slice (some ⟨g, 0, none⟩) 256 c1) 256 (boolCells (flagsM (orM x (spanTo a k)))) ∧
         Blk wr2 w.heap.size 249 #[.int .u64 0, .int .u64 0, .int .u64 0, .int .u64 0] ∧ Below w.heap.size w wr2 ∧ w.heap.size + 1 ≤ wr2.heap.size) (fun jv _ => a + 1 - (intOf jv).toNat)
       case atStart => exact ⟨0, by omega, rfl, by rw [orM_none]; exact HO.out, HZ.out, HB.out, hs2⟩
       case round =>
        obtain ⟨k, hk, rfl, ho2, hz2, hb2, hsz2⟩ := hrel
        have HZ2 := hid hz2; have HB2 := hid hb2
        clear hz2 hb2 HO HZ HB hs2
        have hol : (boolCells (flagsM (orM x (spanTo a k)))).length = 256 := by rw [boolCells_length, flagsM_length]
        by_cases hlt : a + k ≤ a
        ·have hby : a + k < 256 := by omega
         obtain ⟨u, hu⟩ : ∃ u, (boolCells (flagsM (orM x (spanTo a k))))[a + k]? = some u := ⟨_, List.getElem?_eq_getElem (by rw [hol]; exact hby)⟩
         have hcl : wr.cell? ⟨g, a + k, none⟩ = some u := by rw [ho2.cellAt _ (by omega)]; exact hu
         have hfr := ho2.frozenAt (a + k)
         have HST := hid (ho2.stored (a + k) (.bool true))
         have HPU : Hid ((boolCells (flagsM (orM x (spanTo a k)))).set (a + k) (.bool true) = boolCells (flagsM (orM x (spanTo a (k + 1))))) := by rw [Hid, ← orM_put x a k hby, ← flagsM_put _ _ hby, boolCells_set]
         obtain ⟨i9, hi9⟩ : ∃ i, a + k = i := ⟨_, rfl⟩
         rw [hi9] at hcl hfr HST hlt HPU hby ⊢
         have HI9 := hid hi9
         clear ho2 hol hi9 hu
         go_wp2_with fail
         go_roundw
         case rel =>
          refine ⟨k + 1, by have := HI9.out; omega, by have := HI9.out; go_num, ?_, HZ2.out.set_far (by omega), HB2.out.setCell (by simp; omega) _, by simpa using hsz2⟩
          rw [← HPU.out]; exact HST.out.1
         case measure => simp [intOf]; omega
        ·have hkk : k = a + 1 - a := by omega
         have HO2 : Hid (wr.ownsRow (w.heap.size + 1) 4 1 (.slice (some ⟨g, 0, none⟩) 256 c1) 256 (boolCells (flagsM (orM x (spanTo a (a + 1 - a)))))) := by rw [Hid, ← hkk]; exact ho2
         clear ho2 hol hkk
         go_wp2_with fail
         go_roundw
         case rel => exact ⟨s.size, n', orM x (spanTo a (a + 1 - a)), false, HLE.out, by have := HLT.out; omega, rfl, rfl, HNX.out, HO2.out, HZ2.out, HB2.out, hsz2⟩
         case measure => have := HLT.out; simp [intOf]; omega
      ·skip
       have HNX2 : Hid (rdGo s (n' + 1) (orM x (spanTo a (a + 1 - a))) i1 0 = Q) := by
        have hp : rdPart s i = (spanTo a 1, i1, 0) := by
         simp only [rdPart]; rw [hr1]; simp only; rw [if_neg (by rw [h45]; simp)]
        rw [Hid, ← HNX.out, hp, Nat.add_sub_cancel_left]
       have HLE : Hid (i1 ≤ s.size) := hi1s
       have HLT : Hid (i < i1 ∧ i < s.size ∧ s.size ≤ i + (n' + 1)) := ⟨by omega, by omega, by omega⟩
       clear HNX HR HPX h45 hr1
       have HNX := HNX2
       clear HNX2
       have hby1 := (byteAt_get s i1 h46).symm
       obtain ⟨cb, hcb⟩ : ∃ c, byteAt s i1 = c := ⟨_, rfl⟩
       rw [hcb] at hby1 h47
       have e45 : ((cb : Int) == 45) = false := by rw [beq_eq_false_iff_ne]; omega
       clear hcb
       go_wp2_with fail
       refine (C1.out _).mono ?_
       rintro e w7 ⟨rfl, rfl⟩
       obtain ⟨wo, hwo⟩ : ∃ wo : World, wo = wr := ⟨_, rfl⟩
       rw [← hwo] at HO HZ HB ⊢
       have hs2 : w.heap.size + 1 ≤ wo.heap.size := by rw [hwo]; exact hsz
       clear hwo hsz
       go_wp2_with fail
       go_loopw [13] (fun jv wr2 => ∃ (k : Nat), a + k ≤ a + 1 ∧ jv = .int .i64 ((a + k : Nat) : Int) ∧ wr2.ownsRow (w.heap.size + 1) 4 1 (.slice (some ⟨g, 0, none⟩) 256 c1) 256 (boolCells (flagsM (orM x (spanTo a k)))) ∧
         Blk wr2 w.heap.size 249 #[.int .u64 0, .int .u64 0, .int .u64 0, .int .u64 0] ∧ Below w.heap.size w wr2 ∧ w.heap.size + 1 ≤ wr2.heap.size) (fun jv _ => a + 1 - (intOf jv).toNat)
       case atStart => exact ⟨0, by omega, rfl, by rw [orM_none]; exact HO.out, HZ.out, HB.out, hs2⟩
       case round =>
        obtain ⟨k, hk, rfl, ho2, hz2, hb2, hsz2⟩ := hrel
        have HZ2 := hid hz2; have HB2 := hid hb2
        clear hz2 hb2 HO HZ HB hs2
        have hol : (boolCells (flagsM (orM x (spanTo a k)))).length = 256 := by rw [boolCells_length, flagsM_length]
        by_cases hlt : a + k ≤ a
        ·have hby : a + k < 256 := by omega
         obtain ⟨u, hu⟩ : ∃ u, (boolCells (flagsM (orM x (spanTo a k))))[a + k]? = some u := ⟨_, List.getElem?_eq_getElem (by rw [hol]; exact hby)⟩
         have hcl : wr.cell? ⟨g, a + k, none⟩ = some u := by rw [ho2.cellAt _ (by omega)]; exact hu
         have hfr := ho2.frozenAt (a + k)
         have HST := hid (ho2.stored (a + k) (.bool true))
         have HPU : Hid ((boolCells (flagsM (orM x (spanTo a k)))).set (a + k) (.bool true) = boolCells (flagsM (orM x (spanTo a (k + 1))))) := by rw [Hid, ← orM_put x a k hby, ← flagsM_put _ _ hby, boolCells_set]
         obtain ⟨i9, hi9⟩ : ∃ i, a + k = i := ⟨_, rfl⟩
         rw [hi9] at hcl hfr HST hlt HPU hby ⊢
         have HI9 := hid hi9
         clear ho2 hol hi9 hu
         go_wp2_with fail
         go_roundw
         case rel =>
          refine ⟨k + 1, by have := HI9.out; omega, by have := HI9.out; go_num, ?_, HZ2.out.set_far (by omega), HB2.out.setCell (by simp; omega) _, by simpa using hsz2⟩
          rw [← HPU.out]; exact HST.out.1
         case measure => simp [intOf]; omega
        ·have hkk : k = a + 1 - a := by omega
         have HO2 : Hid (wr.ownsRow (w.heap.size + 1) 4 1 (.slice (some ⟨g, 0, none⟩) 256 c1) 256 (boolCells (flagsM (orM x (spanTo a (a + 1 - a)))))) := by rw [Hid, ← hkk]; exact ho2
         clear ho2 hol hkk
         go_wp2_with fail
         go_roundw
         case rel => exact ⟨i1, n', orM x (spanTo a (a + 1 - a)), false, HLE.out, by have := HLT.out; omega, rfl, rfl, HNX.out, HO2.out, HZ2.out, HB2.out, hsz2⟩
         case measure => have := HLT.out; simp [intOf]; omega
     ·obtain ⟨h46, h47⟩ := isM_true h45
      have hby1 := (byteAt_get s i1 h46).symm
      rw [h47] at hby1
      go_wp2_with fail
      refine (C1.out _).mono ?_
      rintro e w7 ⟨rfl, rfl⟩
      rcases one_sign s (i1 + 1) (by omega) with h2 | h2
      ·obtain ⟨he2, ho2, hlt2, hi2s⟩ := h2
       obtain ⟨⟨b, i2, e2⟩, hr2⟩ : ∃ t, rdSign s (i1 + 1) 0 = t := ⟨_, rfl⟩
       have hb256 : b < 256 := by have := rdSign_byte s (i1 + 1) 0; rw [hr2] at this; exact this
       rw [hr2] at he2 ho2 hlt2 hi2s
       simp only at he2 ho2 hlt2 hi2s
       subst he2
       have C2 := hid (fun W => one_any (tailOf s (i1 + 1)) (by rw [tailOf_size]; omega) W)
       rw [ho2] at C2
       unfold tailOf at C2
       obtain ⟨j1, hj1⟩ : ∃ j, i1 + 1 = j := ⟨_, rfl⟩
       have hj1' : ((i1 : Int) + 1) = (j1 : Int) := by omega
       have hj1s : j1 ≤ s.size := by omega
       obtain ⟨d2, hd2⟩ : ∃ d, i2 - j1 = d := ⟨_, rfl⟩
       have hd2' : ((j1 : Int) + (d2 : Int)) = (i2 : Int) := by omega
       rw [hj1, hd2] at C2
       have HJ1 := hid hj1
       clear hd2 hj1 ho2
       by_cases hba : b < a
       ·skip
        have HE : Hid (readC s = (BSet.zero, i2 - 1, 12)) := by
         have hp : rdPart s i = (spanTo a (b + 1 - a), i2 - 1, 12) := by
          simp only [rdPart]; rw [hr1]; simp only; rw [if_pos ⟨trivial, h45⟩, hr2]; simp only; rw [if_pos ⟨trivial, hba⟩]
         have hq : Q = (orM x (spanTo a (b + 1 - a)), i2 - 1, 12) := by rw [← HNX.out, hp, rdGo_bad _ _ _ _ _ (show (12 : Nat) ≠ 0 by decide)]
         rw [Hid, HR.out, hq, if_neg (show ¬ (12 : Nat) = 0 by decide)]
        obtain ⟨j3, hj3⟩ : ∃ j, i2 - 1 = j := ⟨_, rfl⟩
        have hj3' : ((i2 : Int) - 1) = (j3 : Int) := by omega
        rw [hj3] at HE
        clear hj3 HNX HR HPX
        go_wp2_with fail
        refine (C2.out _).mono ?_
        rintro e w7 ⟨rfl, rfl⟩
        obtain ⟨k0, k1, k2, k3, f0, f1, f2, f3⟩ := blk4 HZ.out
        have HZ9 := hid (blk_put4 (b0 := .int .u64 0) (b1 := .int .u64 0) (b2 := .int .u64 0) (b3 := .int .u64 0) HZ.out)
        have HB9 := hid (below_put4 (g := w.heap.size) HB.out (Nat.le_refl _) (.int .u64 0) (.int .u64 0) (.int .u64 0) (.int .u64 0))
        go_wp2_with fail
        obtain ⟨z0, z1, z2, z3, -, -, -, -⟩ := blk4 HZ9.out
        exact bodyPost_ret (v := .tuple #[.agg #[.int .u64 0, .int .u64 0, .int .u64 0, .int .u64 0], .int .i64 (j3 : Int), .int .i64 12]) (by simp [results, Tryz.results224, go_sem, z0, z1, z2, z3]) rfl ⟨by rw [HE.out]; rfl, HB9.out⟩
       ·skip
        have HNX2 : Hid (rdGo s (n' + 1) (orM x (spanTo a (b + 1 - a))) i2 0 = Q) := by
         have hp : rdPart s i = (spanTo a (b + 1 - a), i2, 0) := by
          simp only [rdPart]; rw [hr1]; simp only; rw [if_pos ⟨trivial, h45⟩, hr2]; simp only; rw [if_neg (by rintro ⟨-, h'⟩; exact hba h')]
         rw [Hid, ← HNX.out, hp]
        have HLE : Hid (i2 ≤ s.size) := hi2s
        have HLT : Hid (i < i2 ∧ i < s.size ∧ s.size ≤ i + (n' + 1)) := ⟨by omega, by omega, by omega⟩
        clear HNX HR HPX
        have HNX := HNX2
        clear HNX2
        go_wp2_with fail
        refine (C2.out _).mono ?_
        rintro e w7 ⟨rfl, rfl⟩
        obtain ⟨wo, hwo⟩ : ∃ wo : World, wo = wr := ⟨_, rfl⟩
        rw [← hwo] at HO HZ HB ⊢
        have hs2 : w.heap.size + 1 ≤ wo.heap.size := by rw [hwo]; exact hsz
        clear hwo hsz
        go_wp2_with fail
        go_loopw [13] (fun jv wr2 => ∃ (k : Nat), a + k ≤ b + 1 ∧ jv = .int .i64 ((a + k : Nat) : Int) ∧ wr2.ownsRow (w.heap.size + 1) 4 1 (.slice (some ⟨g, 0, none⟩) 256 c1) 256 (boolCells (flagsM (orM x (spanTo a k)))) ∧
          Blk wr2 w.heap.size 249 #[.int .u64 0, .int .u64 0, .int .u64 0, .int .u64 0] ∧ Below w.heap.size w wr2 ∧ w.heap.size + 1 ≤ wr2.heap.size) (fun jv _ => b + 1 - (intOf jv).toNat)
        case atStart => exact ⟨0, by omega, rfl, by rw [orM_none]; exact HO.out, HZ.out, HB.out, hs2⟩
        case round =>
         obtain ⟨k, hk, rfl, ho2, hz2, hb2, hsz2⟩ := hrel
         have HZ2 := hid hz2; have HB2 := hid hb2
         clear hz2 hb2 HO HZ HB hs2
         have hol : (boolCells (flagsM (orM x (spanTo a k)))).length = 256 := by rw [boolCells_length, flagsM_length]
         by_cases hlt : a + k ≤ b
         ·have hby : a + k < 256 := by omega
          obtain ⟨u, hu⟩ : ∃ u, (boolCells (flagsM (orM x (spanTo a k))))[a + k]? = some u := ⟨_, List.getElem?_eq_getElem (by rw [hol]; exact hby)⟩
          have hcl : wr.cell? ⟨g, a + k, none⟩ = some u := by rw [ho2.cellAt _ (by omega)]; exact hu
          have hfr := ho2.frozenAt (a + k)
          have HST := hid (ho2.stored (a + k) (.bool true))
          have HPU : Hid ((boolCells (flagsM (orM x (spanTo a k)))).set (a + k) (.bool true) = boolCells (flagsM (orM x (spanTo a (k + 1))))) := by rw [Hid, ← orM_put x a k hby, ← flagsM_put _ _ hby, boolCells_set]
          obtain ⟨i9, hi9⟩ : ∃ i, a + k = i := ⟨_, rfl⟩
          rw [hi9] at hcl hfr HST hlt HPU hby ⊢
          have HI9 := hid hi9
          clear ho2 hol hi9 hu
          go_wp2_with fail
          go_roundw
          case rel =>
           refine ⟨k + 1, by have := HI9.out; omega, by have := HI9.out; go_num, ?_, HZ2.out.set_far (by omega), HB2.out.setCell (by simp; omega) _, by simpa using hsz2⟩
           rw [← HPU.out]; exact HST.out.1
          case measure => simp [intOf]; omega
         ·have hkk : k = b + 1 - a := by omega
          have HO2 : Hid (wr.ownsRow (w.heap.size + 1) 4 1 (.slice (some ⟨g, 0, none⟩) 256 c1) 256 (boolCells (flagsM (orM x (spanTo a (b + 1 - a)))))) := by rw [Hid, ← hkk]; exact ho2
          clear ho2 hol hkk
          go_wp2_with fail
          go_roundw
          case rel => exact ⟨i2, n', orM x (spanTo a (b + 1 - a)), false, HLE.out, by have := HLT.out; omega, rfl, rfl, HNX.out, HO2.out, HZ2.out, HB2.out, hsz2⟩
          case measure => have := HLT.out; simp [intOf]; omega
      ·skip
       obtain ⟨-, n2, ho2, hle2, hr2⟩ := h2
       have HE : Hid (readC s = (BSet.zero, i1 + 1 + n2, stopE s (i1 + 1 + n2))) := by
        have hp : rdPart s i = (spanTo a (0 + 1 - a), i1 + 1 + n2, stopE s (i1 + 1 + n2)) := by
         simp only [rdPart]; rw [hr1]; simp only; rw [if_pos ⟨trivial, h45⟩, hr2, if_neg (by rintro ⟨h', -⟩; exact stopE_pos _ _ h')]
        have hq : Q = (orM x (spanTo a (0 + 1 - a)), i1 + 1 + n2, stopE s (i1 + 1 + n2)) := by rw [← HNX.out, hp, rdGo_bad _ _ _ _ _ (stopE_pos _ _)]
        rw [Hid, HR.out, hq, if_neg (stopE_pos _ _)]
       have C2 := hid (fun W => one_any (tailOf s (i1 + 1)) (by rw [tailOf_size]; omega) W)
       rw [ho2] at C2
       unfold tailOf at C2
       obtain ⟨j1, hj1⟩ : ∃ j, i1 + 1 = j := ⟨_, rfl⟩
       have hj1' : ((i1 : Int) + 1) = (j1 : Int) := by omega
       obtain ⟨j2, hj2⟩ : ∃ j, j1 + n2 = j := ⟨_, rfl⟩
       have hj2' : ((j1 : Int) + (n2 : Int)) = (j2 : Int) := by omega
       rw [hj1] at C2 HE hle2
       rw [hj2] at HE hle2
       have hj1s : j1 ≤ s.size := by omega
       clear hj1 hj2 HNX HR HPX
       go_wp2_with fail
       refine (C2.out _).mono ?_
       rintro e w7 ⟨rfl, rfl⟩
       go_wp2_with fail
       refine (stopR_any s j2 hle2 hs _).mono ?_
       rintro e w8 ⟨rfl, hb8⟩
       have HZ8 : Hid (Blk w8 w.heap.size 249 #[.int .u64 0, .int .u64 0, .int .u64 0, .int .u64 0]) := HZ.out.below hb8 HZ.out.lt
       have HB8 : Hid (Below w.heap.size w w8) := HB.out.trans (hb8.mono HB.out.size)
       clear hb8
       obtain ⟨k0, k1, k2, k3, f0, f1, f2, f3⟩ := blk4 HZ8.out
       have HZ9 := hid (blk_put4 (b0 := .int .u64 0) (b1 := .int .u64 0) (b2 := .int .u64 0) (b3 := .int .u64 0) HZ8.out)
       have HB9 := hid (below_put4 (g := w.heap.size) HB8.out (Nat.le_refl _) (.int .u64 0) (.int .u64 0) (.int .u64 0) (.int .u64 0))
       go_wp2_with fail
       obtain ⟨z0, z1, z2, z3, -, -, -, -⟩ := blk4 HZ9.out
       exact bodyPost_ret (v := .tuple #[.agg #[.int .u64 0, .int .u64 0, .int .u64 0, .int .u64 0], .int .i64 (j2 : Int), .int .i64 (stopE s j2 : Nat)]) (by simp [results, Tryz.results224, go_sem, z0, z1, z2, z3]) rfl ⟨by rw [HE.out]; rfl, HB9.out⟩
    ·skip
     obtain ⟨-, n1, ho1, hle1, hr1⟩ := h1
     have HE : Hid (readC s = (BSet.zero, i + n1, stopE s (i + n1))) := by
      have hp : rdPart s i = (spanTo 0 1, i + n1, stopE s (i + n1)) := by
       simp only [rdPart]; rw [hr1]; simp only; rw [if_neg (by rintro ⟨h', -⟩; exact stopE_pos _ _ h')]
      have hq : Q = (orM x (spanTo 0 1), i + n1, stopE s (i + n1)) := by rw [← HPX.out, hp, rdGo_bad _ _ _ _ _ (stopE_pos _ _)]
      rw [Hid, HR.out, hq, if_neg (stopE_pos _ _)]
     have C1 := hid (fun W => one_any (tailOf s i) (by rw [tailOf_size]; omega) W)
     rw [ho1] at C1
     unfold tailOf at C1
     obtain ⟨j1, hj1⟩ : ∃ j, i + n1 = j := ⟨_, rfl⟩
     have hj1' : ((i : Int) + (n1 : Int)) = (j1 : Int) := by omega
     rw [hj1] at HE hle1
     clear hj1 HR HPX
     go_wp2_with fail
     refine (C1.out _).mono ?_
     rintro e w7 ⟨rfl, rfl⟩
     go_wp2_with fail
     refine (stopR_any s j1 hle1 hs _).mono ?_
     rintro e w8 ⟨rfl, hb8⟩
     have HZ8 : Hid (Blk w8 w.heap.size 249 #[.int .u64 0, .int .u64 0, .int .u64 0, .int .u64 0]) := HZ.out.below hb8 HZ.out.lt
     have HB8 : Hid (Below w.heap.size w w8) := HB.out.trans (hb8.mono HB.out.size)
     clear hb8
     obtain ⟨k0, k1, k2, k3, f0, f1, f2, f3⟩ := blk4 HZ8.out
     have HZ9 := hid (blk_put4 (b0 := .int .u64 0) (b1 := .int .u64 0) (b2 := .int .u64 0) (b3 := .int .u64 0) HZ8.out)
     have HB9 := hid (below_put4 (g := w.heap.size) HB8.out (Nat.le_refl _) (.int .u64 0) (.int .u64 0) (.int .u64 0) (.int .u64 0))
     go_wp2_with fail
     obtain ⟨z0, z1, z2, z3, -, -, -, -⟩ := blk4 HZ9.out
     exact bodyPost_ret (v := .tuple #[.agg #[.int .u64 0, .int .u64 0, .int .u64 0, .int .u64 0], .int .i64 (j1 : Int), .int .i64 (stopE s j1 : Nat)]) (by simp [results, Tryz.results224, go_sem, z0, z1, z2, z3]) rfl ⟨by rw [HE.out]; rfl, HB9.out⟩
theorem readC_form (s : ByteArray) (b : Bool) (i0 : Nat) (h91 : isM s 0 91 = true) (h94 : isM s 1 94 = b) (hi : i0 = if b = true then 2 else 1) (Q : BSet × Nat × Nat) (hq : rdGo s (s.size + 1) (rdPart s i0).1 (rdPart s i0).2.1 (rdPart s i0).2.2 = Q) :
  readC s = if Q.2.2 = 0 then (if b = true then notM Q.1 else Q.1, Q.2.1 + 1, 0) else (BSet.zero, Q.2.1, Q.2.2) := by
 have hW : rdWhole s = if Q.2.2 = 0 then (if b = true then notM Q.1 else Q.1, Q.2.1 + 1, 0) else (BSet.zero, Q.2.1, Q.2.2) := by
  simp only [rdWhole]
  rw [if_pos h91, h94, ← hi, hq]
 unfold readC
 rw [hW]
 by_cases h : Q.2.2 = 0
 ·rw [if_pos h, if_pos rfl]
 ·rw [if_neg h, if_neg h]
set_option maxRecDepth 20000 in
set_option maxHeartbeats 800000 in
theorem readR_no (s : ByteArray) (w : World) (hs : s.size ≤ 1000000) (h91 : isM s 0 91 = false) :
  Calls Tryz.prog 224 #[.string s] w fun e w' => e = .returned (.tuple #[(readC s).1.val, .int .i64 ((readC s).2.1 : Nat), .int .i64 ((readC s).2.2 : Nat)]) ∧ Below w.heap.size w w' := by
 have HE : Hid (readC s = (BSet.zero, 0, stopE s 0)) := by
  have hW : rdWhole s = (BSet.zero, stopAt s 0, stopE s 0) := by rw [rdWhole, if_neg (by rw [h91]; decide)]
  have h0 : stopAt s 0 = 0 := by unfold stopAt; split <;> omega
  rw [Hid, readC, hW, if_neg (stopE_pos _ _), h0]
 rcases isM_false (Nat.zero_le _) h91 with h0 | ⟨h0, h1⟩
 ·have z0 : s.toList = [] := by rw [empty_toList]; exact List.eq_nil_of_length_eq_zero (by simpa using h0.symm)
  clear h0 h91
  go_enter Tryz.func224, Tryz.ntmps224
  go_wp2_with fail
  refine (none_any _).mono ?_
  rintro e w1 ⟨A1, c1, rfl, hown, hbl⟩
  simp only [World.size_alloc] at hown hbl
  have HZ1 := hid ((Blk.new w 249 #[.int .u64 0, .int .u64 0, .int .u64 0, .int .u64 0]).below hbl (by simp))
  have HB1 := hid (((Below.refl w.heap.size w).alloc (Nat.le_refl _) (.cells #[.int .u64 0, .int .u64 0, .int .u64 0, .int .u64 0] 249)).trans (hbl.mono (by simp)))
  clear hown hbl
  go_wp2_with fail
  refine (stopR_any s 0 (Nat.zero_le _) hs _).mono ?_
  rintro e w8 ⟨rfl, hb8⟩
  have HZ8 : Hid (Blk w8 w.heap.size 249 #[.int .u64 0, .int .u64 0, .int .u64 0, .int .u64 0]) := HZ1.out.below hb8 HZ1.out.lt
  have HB8 : Hid (Below w.heap.size w w8) := HB1.out.trans (hb8.mono HB1.out.size)
  clear hb8
  obtain ⟨k0, k1, k2, k3, f0, f1, f2, f3⟩ := blk4 HZ8.out
  have HZ9 := hid (blk_put4 (b0 := .int .u64 0) (b1 := .int .u64 0) (b2 := .int .u64 0) (b3 := .int .u64 0) HZ8.out)
  have HB9 := hid (below_put4 (g := w.heap.size) HB8.out (Nat.le_refl _) (.int .u64 0) (.int .u64 0) (.int .u64 0) (.int .u64 0))
  go_wp2_with fail
  obtain ⟨z0, z1, z2, z3, -, -, -, -⟩ := blk4 HZ9.out
  exact bodyPost_ret (v := .tuple #[.agg #[.int .u64 0, .int .u64 0, .int .u64 0, .int .u64 0], .int .i64 0, .int .i64 (stopE s 0 : Nat)]) (by simp [results, Tryz.results224, go_sem, z0, z1, z2, z3]) rfl ⟨by rw [HE.out]; rfl, HB9.out⟩
 ·have z0 : ¬ s.toList = [] := by
   rw [empty_toList]; intro h
   have h' : s.size = 0 := by have := congrArg List.length h; simpa using this
   omega
  have z1 : s.toList.isEmpty = false := by rw [List.isEmpty_eq_false_iff]; exact z0
  have hby0 := (byteAt_get s 0 h0).symm
  obtain ⟨cb, hcb⟩ : ∃ c, byteAt s 0 = c := ⟨_, rfl⟩
  rw [hcb] at hby0 h1
  have e91 : ((cb : Int) == 91) = false := by rw [beq_eq_false_iff_ne]; omega
  clear hcb h91
  go_enter Tryz.func224, Tryz.ntmps224
  go_wp2_with fail
  refine (none_any _).mono ?_
  rintro e w1 ⟨A1, c1, rfl, hown, hbl⟩
  simp only [World.size_alloc] at hown hbl
  have HZ1 := hid ((Blk.new w 249 #[.int .u64 0, .int .u64 0, .int .u64 0, .int .u64 0]).below hbl (by simp))
  have HB1 := hid (((Below.refl w.heap.size w).alloc (Nat.le_refl _) (.cells #[.int .u64 0, .int .u64 0, .int .u64 0, .int .u64 0] 249)).trans (hbl.mono (by simp)))
  clear hown hbl
  go_wp2_with fail
  refine (stopR_any s 0 (Nat.zero_le _) hs _).mono ?_
  rintro e w8 ⟨rfl, hb8⟩
  have HZ8 : Hid (Blk w8 w.heap.size 249 #[.int .u64 0, .int .u64 0, .int .u64 0, .int .u64 0]) := HZ1.out.below hb8 HZ1.out.lt
  have HB8 : Hid (Below w.heap.size w w8) := HB1.out.trans (hb8.mono HB1.out.size)
  clear hb8
  obtain ⟨k0, k1, k2, k3, f0, f1, f2, f3⟩ := blk4 HZ8.out
  have HZ9 := hid (blk_put4 (b0 := .int .u64 0) (b1 := .int .u64 0) (b2 := .int .u64 0) (b3 := .int .u64 0) HZ8.out)
  have HB9 := hid (below_put4 (g := w.heap.size) HB8.out (Nat.le_refl _) (.int .u64 0) (.int .u64 0) (.int .u64 0) (.int .u64 0))
  go_wp2_with fail
  obtain ⟨z0, z1, z2, z3, -, -, -, -⟩ := blk4 HZ9.out
  exact bodyPost_ret (v := .tuple #[.agg #[.int .u64 0, .int .u64 0, .int .u64 0, .int .u64 0], .int .i64 0, .int .i64 (stopE s 0 : Nat)]) (by simp [results, Tryz.results224, go_sem, z0, z1, z2, z3]) rfl ⟨by rw [HE.out]; rfl, HB9.out⟩
set_option maxRecDepth 20000 in
set_option maxHeartbeats 800000 in
theorem readR_single (s : ByteArray) (w : World) (hs : s.size ≤ 1000000) (h91 : isM s 0 91 = true) (h1 : ¬ 1 < s.size) :
  Calls Tryz.prog 224 #[.string s] w fun e w' => e = .returned (.tuple #[(readC s).1.val, .int .i64 ((readC s).2.1 : Nat), .int .i64 ((readC s).2.2 : Nat)]) ∧ Below w.heap.size w w' := by
 obtain ⟨h0, hb0⟩ := isM_true h91
 have hby0 := (byteAt_get s 0 h0).symm
 rw [hb0] at hby0
 have z0 : ¬ s.toList = [] := by
  rw [empty_toList]; intro h
  have h' : s.size = 0 := by have := congrArg List.length h; simpa using this
  omega
 have z1 : s.toList.isEmpty = false := by rw [List.isEmpty_eq_false_iff]; exact z0
 have ho1 : oneM (tailOf s 1) = (0, 0, false) := by rw [oneM, if_pos (by rw [tailOf_size]; omega)]
 have HE : Hid (readC s = (BSet.zero, 1, stopE s 1)) := by
  have h94 : isM s 1 94 = false := is_far s 1 94 h1
  have hs1 : rdSign s 1 0 = (0, stopAt s 1, stopE s 1) := by rw [rdSign, if_neg (by rw [is_far s 1 37 h1]; decide), if_neg (by omega)]
  have hst : stopAt s 1 = 1 := by unfold stopAt; split <;> omega
  have hp : rdPart s 1 = (spanTo 0 1, 1, stopE s 1) := by
   simp only [rdPart]; rw [hs1, hst]; simp only; rw [if_neg (by rintro ⟨h', -⟩; exact stopE_pos _ _ h')]
  have hq : rdGo s (s.size + 1) (rdPart s 1).1 (rdPart s 1).2.1 (rdPart s 1).2.2 = (spanTo 0 1, 1, stopE s 1) := by rw [hp, rdGo_bad _ _ _ _ _ (stopE_pos _ _)]
  rw [Hid, readC_form s false 1 h91 h94 rfl _ hq, if_neg (stopE_pos _ _)]
 have C1 := hid (fun W => one_any (tailOf s 1) (by rw [tailOf_size]; omega) W)
 rw [ho1] at C1
 unfold tailOf at C1
 have hle1 : 1 ≤ s.size := h0
 clear h91 hb0 ho1
 go_enter Tryz.func224, Tryz.ntmps224
 go_wp2_with fail
 refine (none_any _).mono ?_
 rintro e w1 ⟨A1, c1, rfl, hown, hbl⟩
 simp only [World.size_alloc] at hown hbl
 have HZ1 := hid ((Blk.new w 249 #[.int .u64 0, .int .u64 0, .int .u64 0, .int .u64 0]).below hbl (by simp))
 have HB1 := hid (((Below.refl w.heap.size w).alloc (Nat.le_refl _) (.cells #[.int .u64 0, .int .u64 0, .int .u64 0, .int .u64 0] 249)).trans (hbl.mono (by simp)))
 clear hown hbl
 go_wp2_with fail
 go_loopw [6, 8] (fun iv fv wr => iv = .int .i64 1 ∧ fv = .bool true ∧ Blk wr w.heap.size 249 #[.int .u64 0, .int .u64 0, .int .u64 0, .int .u64 0] ∧ Below w.heap.size w wr) (fun _ _ _ => 0)
 case atStart => exact ⟨rfl, rfl, HZ1.out, HB1.out⟩
 case round =>
  obtain ⟨rfl, rfl, hz, hbl⟩ := hrel
  have HZ := hid hz; have HB := hid hbl
  clear hz hbl HZ1 HB1
  go_wp2_with fail
  refine (C1.out _).mono ?_
  rintro e w7 ⟨rfl, rfl⟩
  go_wp2_with fail
  refine (stopR_any s 1 hle1 hs _).mono ?_
  rintro e w8 ⟨rfl, hb8⟩
  have HZ8 : Hid (Blk w8 w.heap.size 249 #[.int .u64 0, .int .u64 0, .int .u64 0, .int .u64 0]) := HZ.out.below hb8 HZ.out.lt
  have HB8 : Hid (Below w.heap.size w w8) := HB.out.trans (hb8.mono HB.out.size)
  clear hb8
  obtain ⟨k0, k1, k2, k3, f0, f1, f2, f3⟩ := blk4 HZ8.out
  have HZ9 := hid (blk_put4 (b0 := .int .u64 0) (b1 := .int .u64 0) (b2 := .int .u64 0) (b3 := .int .u64 0) HZ8.out)
  have HB9 := hid (below_put4 (g := w.heap.size) HB8.out (Nat.le_refl _) (.int .u64 0) (.int .u64 0) (.int .u64 0) (.int .u64 0))
  go_wp2_with fail
  obtain ⟨z0, z1, z2, z3, -, -, -, -⟩ := blk4 HZ9.out
  exact bodyPost_ret (v := .tuple #[.agg #[.int .u64 0, .int .u64 0, .int .u64 0, .int .u64 0], .int .i64 (1 : Int), .int .i64 (stopE s 1 : Nat)]) (by simp [results, Tryz.results224, go_sem, z0, z1, z2, z3]) rfl ⟨by rw [HE.out]; rfl, HB9.out⟩
theorem readR_any (s : ByteArray) (w : World) (hs : s.size ≤ 1000000) :
  Calls Tryz.prog 224 #[.string s] w fun e w' => e = .returned (.tuple #[(readC s).1.val, .int .i64 ((readC s).2.1 : Nat), .int .i64 ((readC s).2.2 : Nat)]) ∧ Below w.heap.size w w' := by
 cases h91 : isM s 0 91
 ·exact readR_no s w hs h91
 ·cases h94 : isM s 1 94
  ·by_cases h1 : 1 < s.size
   ·exact readR_one s w hs h91 h94 h1 _ rfl (readC_form s false 1 h91 h94 rfl _ rfl)
   ·exact readR_single s w hs h91 h1
  ·exact readR_but s w hs h91 h94 _ rfl (readC_form s true 2 h91 h94 rfl _ rfl)
theorem parseP_step (p : ByteArray) (k a : Nat) (out : List Item) (hk : out.length = k) (h60 : ¬ k = 60) (hlt : a < p.size) (h : k ≤ 60) : parseP p (61 - k) out a =
  if (itemP (tailOf p a)).2.2 = 0 then parseP p (61 - (k + 1)) (out ++ [(itemP (tailOf p a)).1]) (a + (itemP (tailOf p a)).2.1) else ([], a + (itemP (tailOf p a)).2.1, (itemP (tailOf p a)).2.2) := by
 rw [show 61 - k = (61 - (k + 1)) + 1 from by omega, parseP, if_pos hlt, if_neg (by rw [hk]; exact h60)]
set_option maxRecDepth 20000 in
set_option maxHeartbeats 8000000 in
theorem parseR_any (p : ByteArray) (hp : p.size ≤ 1000000) (w : World) :
  Calls Tryz.prog 211 #[.string p] w fun e w' => ParsePost (parseM p) w e w' := by
 have HR : Hid (parseP p 61 [] 0 = parseM p) := rfl
 obtain ⟨R, hR⟩ : ∃ R, parseM p = R := ⟨_, rfl⟩
 rw [hR] at HR ⊢
 clear hR
 obtain ⟨Q, hQ⟩ : ∃ Q, ParsePost R w = Q := ⟨_, rfl⟩
 rw [show (fun e w' => ParsePost R w e w') = Q from hQ]
 have HQ := hid hQ
 clear hQ
 go_enter Tryz.func211, Tryz.ntmps211
 go_wp2_with fail
 go_loopw [5, 6] (fun v i wr => ∃ (a c : Nat) (A : Option Addr) (out : List Item), a ≤ p.size ∧ out.length ≤ 60 ∧ i = .int .i64 (a : Int) ∧ v = .slice A out.length c ∧ parseP p (61 - out.length) out a = R ∧
   wr.ownsRow w.heap.size 251 5 (.slice A out.length c) out.length (itemCells out) ∧ Below w.heap.size w wr) (fun _ i _ => p.size - (intOf i).toNat)
 case atStart => exact ⟨0, _, _, [], by omega, by simp, rfl, rfl, HR.out, World.ownsRow_made _ _ _ (Nat.le_refl _) (by simp [maxLen]) (by simp), (Below.refl _ _).alloc (Nat.le_refl _) _⟩
 case round =>
  obtain ⟨a, c, A, out, ha, hol, rfl, rfl, hpar, hown, hb⟩ := hrel
  have HPAR := hid hpar; have HOWN := hid hown; have HB := hid hb
  obtain ⟨k, hk⟩ : ∃ k, out.length = k := ⟨_, rfl⟩
  have HK := hid hk
  rw [hk] at hol HPAR HOWN ⊢
  clear hpar hown hb hk HR
  by_cases hlt : a < p.size
  ·by_cases h60 : k = 60
   ·have HE : Hid (R = ([], a, 4)) := by rw [Hid, ← HPAR.out, h60, parseP, if_pos hlt, if_pos (by rw [HK.out]; exact h60)]
    subst h60
    go_wp2_with fail
    go_ret3
    have h := parsePost_nil w wr a 4 HB.out
    rw [← HE.out, HQ.out] at h
    exact h
   ·have HN := hid (parseP_step p k a out HK.out h60 hlt hol)
    have e60 : ((k : Int) == 60) = false := by rw [beq_eq_false_iff_ne]; omega
    have hby := (byteAt_get p a hlt).symm
    have hc8 := byteAt_lt p a
    have HIT := itemP_eq (tailOf p a)
    rw [byteAt_tail, byteAt_tail, Nat.add_zero, tailOf_size] at HIT
    obtain ⟨b, hbb⟩ : ∃ b, byteAt p a = b := ⟨_, rfl⟩
    rw [hbb] at hby hc8 HIT
    have HIT := hid HIT
    clear hbb
    by_cases h93 : b = 93
    ·have e93 : ((b : Int) == 93) = true := by rw [beq_iff_eq]; omega
     have h42 : ¬ b = 42 := by omega
     have h63 : ¬ b = 63 := by omega
     have h91 : ¬ b = 91 := by omega
     have HE : Hid (R = ([], a, 2)) := by rw [Hid, ← HPAR.out, HN.out, HIT.out, if_neg h42, if_neg h63, if_neg h91, if_pos h93, if_neg (show ¬ (2 : Nat) = 0 by decide)]; simp only [Nat.add_zero]
     clear HN HIT HPAR HOWN
     go_wp2_with fail
     go_ret3
     have h := parsePost_nil w wr a 2 HB.out
     rw [← HE.out, HQ.out] at h
     exact h
    ·have e93 : ((b : Int) == 93) = false := by rw [beq_eq_false_iff_ne]; omega
     by_cases h91 : b = 91
     ·have e91 : ((b : Int) == 91) = true := by rw [beq_iff_eq]; omega
      have h42 : ¬ b = 42 := by omega
      have h63 : ¬ b = 63 := by omega
      have HC := hid (fun W => readR_any (tailOf p a) W (by rw [tailOf_size]; omega))
      have HLE := readC_le (tailOf p a)
      rw [tailOf_size] at HLE
      obtain ⟨⟨t, n, e⟩, ht⟩ : ∃ t, readC (tailOf p a) = t := ⟨_, rfl⟩
      rw [ht] at HC HLE HIT
      simp only at HC HLE HIT
      unfold tailOf at HC
      unfold BSet.val at HC
      obtain ⟨hle1, hle2⟩ := HLE
      obtain ⟨j, hj⟩ : ∃ j, a + n = j := ⟨_, rfl⟩
      have hj2 : ((a : Int) + (n : Int)) = (j : Int) := by omega
      have hj3 : j ≤ p.size := by omega
      clear ht
      by_cases he : e = 0
      ·subst he
       have HE : Hid (parseP p (61 - (k + 1)) (out ++ [⟨false, t⟩]) j = R) := by rw [Hid, ← HPAR.out, HN.out, HIT.out, if_neg h42, if_neg h63, if_pos h91, if_pos rfl]; simp only [hj]
       have hn0 : 0 < n := hle2 rfl
       have HJ : Hid (a < j) := by rw [Hid]; omega
       clear HN HIT HPAR hj hle1 hle2
       go_wp2_with fail
       refine (HC.out _).mono ?_
       rintro e w1 ⟨rfl, hb1⟩
       have HO1 : Hid (w1.ownsRow w.heap.size 251 5 (.slice A k c) k (itemCells out)) := own_below HOWN.out hb1
       have HB1 : Hid (Below w.heap.size w w1) := HB.out.trans (hb1.mono HB.out.size)
       clear hb1 HOWN HB HC
       have HO2 : Hid ((w1.alloc (.cells #[w64 t.w0, w64 t.w1, w64 t.w2, w64 t.w3] 249)).ownsRow w.heap.size 251 5 (.slice A k c) k (itemCells out)) := own_below HO1.out ((Below.refl w1.heap.size w1).alloc (Nat.le_refl _) _)
       have HB2 : Hid (Below w.heap.size w (w1.alloc (.cells #[w64 t.w0, w64 t.w1, w64 t.w2, w64 t.w3] 249))) := HB1.out.alloc HB1.out.size _
       have HX2 := hid (Blk.new w1 249 #[w64 t.w0, w64 t.w1, w64 t.w2, w64 t.w3])
       obtain ⟨X, hX⟩ : ∃ X, w1.heap.size = X := ⟨_, rfl⟩
       rw [hX] at HX2
       go_upto_region 13 with fail
       obtain ⟨w2, hw2⟩ : ∃ w2, w1.alloc (.cells #[w64 t.w0, w64 t.w1, w64 t.w2, w64 t.w3] 249) = w2 := ⟨_, rfl⟩
       rw [hw2] at HO2 HB2 HX2 ⊢
       clear hw2 HO1 HB1
       obtain ⟨x0, x1, x2, x3, -, -, -, -⟩ := blk4 HX2.out
       have hown2 := HO2.out
       have hs3 : w.heap.size ≤ _ := HB2.out.size
       go_wp2_with (at_builtin; refine wpList_append1g _ rfl _ _ 223 rfl w.heap.size 251 _ 5 40 Tryz.underlying223 Tryz.infoItem rfl (by decide) _ _ _ rfl hown2 1 (Item.cells (⟨false, t⟩ : Item)) rfl rfl rfl ?_ (by decide) hs3 ?_)
       ·omega
       intro A3 d3 w3 hown3 hg3
       have HB3 := hid (below_grown HB2.out hown2 hg3 (Nat.le_refl _) hs3)
       have HL : Hid ((out ++ [(⟨false, t⟩ : Item)]).length = k + 1) := by rw [Hid, List.length_append, HK.out]; rfl
       have HO3 : Hid (w3.ownsRow w.heap.size 251 5 (.slice (some ⟨A3, 0, none⟩) (k + 1) d3) (k + 1) (itemCells (out ++ [(⟨false, t⟩ : Item)]))) := by
        rw [Hid, itemCells_append]; simpa [itemCells] using hown3
       have hk60 : k < 60 := by omega
       clear hown2 hown3 hg3
       go_wp2_with fail
       go_roundw
       case rel => exact ⟨j, d3, some ⟨A3, 0, none⟩, out ++ [(⟨false, t⟩ : Item)], hj3, by rw [HL.out]; omega, rfl, by rw [HL.out], by rw [HL.out]; exact HE.out, by rw [HL.out]; exact HO3.out, HB3.out⟩
       case measure => have := HJ.out; simp [intOf]; omega
      ·have HE : Hid (R = ([], j, e)) := by rw [Hid, ← HPAR.out, HN.out, HIT.out, if_neg h42, if_neg h63, if_pos h91, if_neg he]; simp only [hj]
       have he0 : ((e : Int) == 0) = false := by rw [beq_eq_false_iff_ne]; omega
       clear HN HIT HPAR hj hle1 hle2 HOWN
       go_wp2_with fail
       refine (HC.out _).mono ?_
       rintro en w1 ⟨rfl, hb1⟩
       have HB2 : Hid (Below w.heap.size w (w1.alloc (.cells #[w64 t.w0, w64 t.w1, w64 t.w2, w64 t.w3] 249))) := (HB.out.trans (hb1.mono HB.out.size)).alloc (Nat.le_trans HB.out.size hb1.size) _
       clear hb1 HC
       go_wp2_with fail
       go_ret3
       have h := parsePost_nil w _ j e HB2.out
       rw [← HE.out, HQ.out] at h
       exact h
     ·have e91 : ((b : Int) == 91) = false := by rw [beq_eq_false_iff_ne]; omega
      by_cases h42 : b = 42
      ·have e42 : ((b : Int) == 42) = true := by rw [beq_iff_eq]; omega
       obtain ⟨j, hj⟩ : ∃ j, a + 1 = j := ⟨_, rfl⟩
       have hj2 : ((a : Int) + 1) = (j : Int) := by omega
       have hj3 : j ≤ p.size := by omega
       have HE : Hid (parseP p (61 - (k + 1)) (out ++ [⟨true, BSet.zero⟩]) j = R) := by rw [Hid, ← HPAR.out, HN.out, HIT.out, if_pos h42, if_pos rfl]; simp only [hj]
       have HJ : Hid (a < j) := by rw [Hid]; omega
       clear HN HIT HPAR hj
       have hown2 := HOWN.out
       have hs3 : w.heap.size ≤ _ := HB.out.size
       go_wp2_with (at_builtin; refine wpList_append1g _ rfl _ _ 223 rfl w.heap.size 251 _ 5 40 Tryz.underlying223 Tryz.infoItem rfl (by decide) _ _ _ rfl hown2 1 (Item.cells (⟨true, BSet.zero⟩ : Item)) rfl rfl rfl ?_ (by decide) hs3 ?_)
       ·omega
       intro A3 d3 w3 hown3 hg3
       have HB3 := hid (below_grown HB.out hown2 hg3 (Nat.le_refl _) hs3)
       have HL : Hid ((out ++ [(⟨true, BSet.zero⟩ : Item)]).length = k + 1) := by rw [Hid, List.length_append, HK.out]; rfl
       have HO3 : Hid (w3.ownsRow w.heap.size 251 5 (.slice (some ⟨A3, 0, none⟩) (k + 1) d3) (k + 1) (itemCells (out ++ [(⟨true, BSet.zero⟩ : Item)]))) := by
        rw [Hid, itemCells_append]; simpa [itemCells] using hown3
       have hk60 : k < 60 := by omega
       clear hown2 hown3 hg3
       go_wp2_with fail
       go_roundw
       case rel => exact ⟨j, d3, some ⟨A3, 0, none⟩, out ++ [(⟨true, BSet.zero⟩ : Item)], hj3, by rw [HL.out]; omega, rfl, by rw [HL.out], by rw [HL.out]; exact HE.out, by rw [HL.out]; exact HO3.out, HB3.out⟩
       case measure => have := HJ.out; simp [intOf]; omega
      ·have e42 : ((b : Int) == 42) = false := by rw [beq_eq_false_iff_ne]; omega
       by_cases h63 : b = 63
       ·have e63 : ((b : Int) == 63) = true := by rw [beq_iff_eq]; omega
        obtain ⟨j, hj⟩ : ∃ j, a + 1 = j := ⟨_, rfl⟩
        have hj2 : ((a : Int) + 1) = (j : Int) := by omega
        have hj3 : j ≤ p.size := by omega
        have HE : Hid (parseP p (61 - (k + 1)) (out ++ [⟨false, spanTo 0 256⟩]) j = R) := by rw [Hid, ← HPAR.out, HN.out, HIT.out, if_neg h42, if_pos h63, if_pos rfl]; simp only [hj]
        have HJ : Hid (a < j) := by rw [Hid]; omega
        have HC := hid (fun W => spanR_any 0 255 (by omega) (by omega) W)
        rw [show 255 + 1 - 0 = 256 from rfl] at HC
        obtain ⟨t, ht⟩ : ∃ t, spanTo 0 256 = t := ⟨_, rfl⟩
        rw [ht] at HC HE
        clear ht HN HIT HPAR hj
        unfold BSet.val at HC
        go_wp2_with fail
        refine (HC.out _).mono ?_
        rintro e w1 ⟨rfl, hb1⟩
        have HO1 : Hid (w1.ownsRow w.heap.size 251 5 (.slice A k c) k (itemCells out)) := own_below HOWN.out hb1
        have HB1 : Hid (Below w.heap.size w w1) := HB.out.trans (hb1.mono HB.out.size)
        clear hb1 HOWN HB HC
        have hown2 := HO1.out
        have hs3 : w.heap.size ≤ _ := HB1.out.size
        go_wp2_with (at_builtin; refine wpList_append1g _ rfl _ _ 223 rfl w.heap.size 251 _ 5 40 Tryz.underlying223 Tryz.infoItem rfl (by decide) _ _ _ rfl hown2 1 (Item.cells (⟨false, t⟩ : Item)) rfl rfl rfl ?_ (by decide) hs3 ?_)
        ·omega
        intro A3 d3 w3 hown3 hg3
        have HB3 := hid (below_grown HB1.out hown2 hg3 (Nat.le_refl _) hs3)
        have HL : Hid ((out ++ [(⟨false, t⟩ : Item)]).length = k + 1) := by rw [Hid, List.length_append, HK.out]; rfl
        have HO3 : Hid (w3.ownsRow w.heap.size 251 5 (.slice (some ⟨A3, 0, none⟩) (k + 1) d3) (k + 1) (itemCells (out ++ [(⟨false, t⟩ : Item)]))) := by
         rw [Hid, itemCells_append]; simpa [itemCells] using hown3
        have hk60 : k < 60 := by omega
        clear hown2 hown3 hg3
        go_wp2_with fail
        go_roundw
        case rel => exact ⟨j, d3, some ⟨A3, 0, none⟩, out ++ [(⟨false, t⟩ : Item)], hj3, by rw [HL.out]; omega, rfl, by rw [HL.out], by rw [HL.out]; exact HE.out, by rw [HL.out]; exact HO3.out, HB3.out⟩
        case measure => have := HJ.out; simp [intOf]; omega
       ·have e63 : ((b : Int) == 63) = false := by rw [beq_eq_false_iff_ne]; omega
        by_cases h37 : b = 37
        ·have e37 : ((b : Int) == 37) = true := by rw [beq_iff_eq]; omega
         by_cases hend : a + 1 = p.size
         ·skip
          obtain ⟨j, hj⟩ : ∃ j, a + 1 = j := ⟨_, rfl⟩
          have hj2 : ((a : Int) + 1) = (j : Int) := by omega
          have hjl : ((j : Int) == (p.size : Int)) = true := by rw [beq_iff_eq]; omega
          have hj3 : j ≤ p.size := by omega
          have HE : Hid (R = ([], j, 3)) := by rw [Hid, ← HPAR.out, HN.out, HIT.out, if_neg h42, if_neg h63, if_neg h91, if_neg h93, if_pos h37, if_pos (show p.size - a = 1 by omega), if_neg (show ¬ (3 : Nat) = 0 by decide)]; simp only [hj]
          clear HN HIT HPAR HOWN hj
          go_wp2_with fail
          go_ret3
          have h := parsePost_nil w wr j 3 HB.out
          rw [← HE.out, HQ.out] at h
          exact h
         ·skip
          obtain ⟨j1, hj1⟩ : ∃ j, a + 1 = j := ⟨_, rfl⟩
          have hj12 : ((a : Int) + 1) = (j1 : Int) := by omega
          have hj1l : j1 < p.size := by omega
          have hjl : ((j1 : Int) == (p.size : Int)) = false := by rw [beq_eq_false_iff_ne]; omega
          obtain ⟨j, hj0⟩ : ∃ j, j1 + 1 = j := ⟨_, rfl⟩
          have hj2 : ((j1 : Int) + 1) = (j : Int) := by omega
          have hj3 : j ≤ p.size := by omega
          have hj : a + 2 = j := by omega
          have hby1 := (byteAt_get p j1 hj1l).symm
          have hd8 := byteAt_lt p j1
          obtain ⟨d, hd⟩ : ∃ d, byteAt p j1 = d := ⟨_, rfl⟩
          rw [hd] at hby1 hd8
          rw [hj1, hd] at HIT
          have HE : Hid (parseP p (61 - (k + 1)) (out ++ [⟨false, spanTo d 1⟩]) j = R) := by rw [Hid, ← HPAR.out, HN.out, HIT.out, if_neg h42, if_neg h63, if_neg h91, if_neg h93, if_pos h37, if_neg (show ¬ p.size - a = 1 by omega), if_pos rfl]; simp only [hj]
          have HJ : Hid (a < j) := by rw [Hid]; omega
          have HC := hid (fun W => spanR_any d d hd8 hd8 W)
          rw [Nat.add_sub_cancel_left] at HC
          obtain ⟨t, ht⟩ : ∃ t, spanTo d 1 = t := ⟨_, rfl⟩
          rw [ht] at HC HE
          clear ht HN HIT HPAR hj hd hj0 hj1 hend
          unfold BSet.val at HC
          go_wp2_with fail
          refine (HC.out _).mono ?_
          rintro e w1 ⟨rfl, hb1⟩
          have HO1 : Hid (w1.ownsRow w.heap.size 251 5 (.slice A k c) k (itemCells out)) := own_below HOWN.out hb1
          have HB1 : Hid (Below w.heap.size w w1) := HB.out.trans (hb1.mono HB.out.size)
          clear hb1 HOWN HB HC
          have hown2 := HO1.out
          have hs3 : w.heap.size ≤ _ := HB1.out.size
          go_wp2_with (at_builtin; refine wpList_append1g _ rfl _ _ 223 rfl w.heap.size 251 _ 5 40 Tryz.underlying223 Tryz.infoItem rfl (by decide) _ _ _ rfl hown2 1 (Item.cells (⟨false, t⟩ : Item)) rfl rfl rfl ?_ (by decide) hs3 ?_)
          ·omega
          intro A3 d3 w3 hown3 hg3
          have HB3 := hid (below_grown HB1.out hown2 hg3 (Nat.le_refl _) hs3)
          have HL : Hid ((out ++ [(⟨false, t⟩ : Item)]).length = k + 1) := by rw [Hid, List.length_append, HK.out]; rfl
          have HO3 : Hid (w3.ownsRow w.heap.size 251 5 (.slice (some ⟨A3, 0, none⟩) (k + 1) d3) (k + 1) (itemCells (out ++ [(⟨false, t⟩ : Item)]))) := by
           rw [Hid, itemCells_append]; simpa [itemCells] using hown3
          have hk60 : k < 60 := by omega
          clear hown2 hown3 hg3
          go_wp2_with fail
          go_roundw
          case rel => exact ⟨j, d3, some ⟨A3, 0, none⟩, out ++ [(⟨false, t⟩ : Item)], hj3, by rw [HL.out]; omega, rfl, by rw [HL.out], by rw [HL.out]; exact HE.out, by rw [HL.out]; exact HO3.out, HB3.out⟩
          case measure => have := HJ.out; simp [intOf]; omega
        ·have e37 : ((b : Int) == 37) = false := by rw [beq_eq_false_iff_ne]; omega
         obtain ⟨j, hj⟩ : ∃ j, a + 1 = j := ⟨_, rfl⟩
         have hj2 : ((a : Int) + 1) = (j : Int) := by omega
         have hj3 : j ≤ p.size := by omega
         have HE : Hid (parseP p (61 - (k + 1)) (out ++ [⟨false, spanTo b 1⟩]) j = R) := by rw [Hid, ← HPAR.out, HN.out, HIT.out, if_neg h42, if_neg h63, if_neg h91, if_neg h93, if_neg h37, if_pos rfl]; simp only [hj]
         have HJ : Hid (a < j) := by rw [Hid]; omega
         have HC := hid (fun W => spanR_any b b hc8 hc8 W)
         rw [Nat.add_sub_cancel_left] at HC
         obtain ⟨t, ht⟩ : ∃ t, spanTo b 1 = t := ⟨_, rfl⟩
         rw [ht] at HC HE
         clear ht HN HIT HPAR hj
         unfold BSet.val at HC
         go_wp2_with fail
         refine (HC.out _).mono ?_
         rintro e w1 ⟨rfl, hb1⟩
         have HO1 : Hid (w1.ownsRow w.heap.size 251 5 (.slice A k c) k (itemCells out)) := own_below HOWN.out hb1
         have HB1 : Hid (Below w.heap.size w w1) := HB.out.trans (hb1.mono HB.out.size)
         clear hb1 HOWN HB HC
         have hown2 := HO1.out
         have hs3 : w.heap.size ≤ _ := HB1.out.size
         go_wp2_with (at_builtin; refine wpList_append1g _ rfl _ _ 223 rfl w.heap.size 251 _ 5 40 Tryz.underlying223 Tryz.infoItem rfl (by decide) _ _ _ rfl hown2 1 (Item.cells (⟨false, t⟩ : Item)) rfl rfl rfl ?_ (by decide) hs3 ?_)
         ·omega
         intro A3 d3 w3 hown3 hg3
         have HB3 := hid (below_grown HB1.out hown2 hg3 (Nat.le_refl _) hs3)
         have HL : Hid ((out ++ [(⟨false, t⟩ : Item)]).length = k + 1) := by rw [Hid, List.length_append, HK.out]; rfl
         have HO3 : Hid (w3.ownsRow w.heap.size 251 5 (.slice (some ⟨A3, 0, none⟩) (k + 1) d3) (k + 1) (itemCells (out ++ [(⟨false, t⟩ : Item)]))) := by
          rw [Hid, itemCells_append]; simpa [itemCells] using hown3
         have hk60 : k < 60 := by omega
         clear hown2 hown3 hg3
         go_wp2_with fail
         go_roundw
         case rel => exact ⟨j, d3, some ⟨A3, 0, none⟩, out ++ [(⟨false, t⟩ : Item)], hj3, by rw [HL.out]; omega, rfl, by rw [HL.out], by rw [HL.out]; exact HE.out, by rw [HL.out]; exact HO3.out, HB3.out⟩
         case measure => have := HJ.out; simp [intOf]; omega
  ·have HE : Hid (R = (out, 0, 0)) := by rw [Hid, ← HPAR.out, parseP_end _ _ _ _ hlt]
   go_wp2_with fail
   go_ret3
   rw [← HQ.out, HE.out]
   exact ⟨A, c, by rw [HK.out]; rfl, by rw [HK.out]; exact HOWN.out, HB.out⟩
end Go.Proofs.YtpkkfdmhbbipoaaGreat
