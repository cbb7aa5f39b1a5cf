/- Walks: scripts, somewhat cut. Walks: scripts, somewhat cut (the whole). Plain laws and memory for ProgFirst: what stands behind the op that is told; an op laid into a row. -/
import Derived.Test.YtpkkfdmhbbipoaaGreatPb
namespace Go.Proofs.YtpkkfdmhbbipoaaGreat
open Go.RowKit PopT
def cutA (m : ArmV) : ArmV := ⟨cutM 70 m.pat, m.tt⟩
def cutO (o : OpV) : OpV := ⟨o.kind, cutM 300 o.text, o.n, o.tt, (o.arms.take 10).map cutA, o.onT, o.onE⟩
def fewP (p : ProgV) (most : Nat) : ProgV := ⟨cutM 20 p.name, p.deadline, p.jumps, (p.ops.take most).map cutO⟩
def set7 (w : World) (g : Nat) (a b c d e f i : Value) : World := ((((((w.setCell ⟨g, 0, none⟩ a).setCell ⟨g, 1, none⟩ b).setCell ⟨g, 2, none⟩ c).setCell ⟨g, 3, none⟩ d).setCell ⟨g, 4, none⟩ e).setCell ⟨g, 5, none⟩ f).setCell ⟨g, 6, none⟩ i
theorem set7_blk {w : World} {g : Nat} {t : TypeId} {x0 x1 x2 x3 x4 x5 x6 : Value} (h : Blk w g t #[x0, x1, x2, x3, x4, x5, x6]) (a b c d e f i : Value) : Blk (set7 w g a b c d e f i) g t #[a, b, c, d, e, f, i] := by
 have h0 : Blk _ g t #[a, x1, x2, x3, x4, x5, x6] := h.set 0 a
 have h1 : Blk _ g t #[a, b, x2, x3, x4, x5, x6] := h0.set 1 b
 have h2 : Blk _ g t #[a, b, c, x3, x4, x5, x6] := h1.set 2 c
 have h3 : Blk _ g t #[a, b, c, d, x4, x5, x6] := h2.set 3 d
 have h4 : Blk _ g t #[a, b, c, d, e, x5, x6] := h3.set 4 e
 have h5 : Blk _ g t #[a, b, c, d, e, f, x6] := h4.set 5 f
 exact h5.set 6 i
theorem set7_own {w : World} {base g n size : Nat} {t : TypeId} {v : Value} {xs : List Value} (h : w.ownsRow base t size v n xs) (hne : v.ownBlock ≠ some g) (a b c d e f i : Value) : (set7 w g a b c d e f i).ownsRow base t size v n xs :=
 own_kept_set (own_kept_set (own_kept_set (own_kept_set (own_kept_set (own_kept_set (own_kept_set h ⟨g, 0, none⟩ a hne) ⟨g, 1, none⟩ b hne) ⟨g, 2, none⟩ c hne) ⟨g, 3, none⟩ d hne) ⟨g, 4, none⟩ e hne) ⟨g, 5, none⟩ f hne) ⟨g, 6, none⟩ i hne
theorem set7_below {B g : Nat} {w w1 : World} (h : Below B w w1) (hg : B ≤ g) (a b c d e f i : Value) : Below B w (set7 w1 g a b c d e f i) :=
 ((((((h.setCell hg a).setCell hg b).setCell hg c).setCell hg d).setCell hg e).setCell hg f).setCell hg i
theorem Tryz.infoArmV : (Tryz.prog.info? 99).map (fun i => (i.zero, i.size, i.bytes)) = some (some (.agg #[.string ⟨#[]⟩, .int .i64 0]), 2, 24) := by kernel_rfl
set_option maxRecDepth 20000 in
set_option maxHeartbeats 4000000 in
theorem opL_any (o : OpV) (A : Option Addr) (c : Nat) (w : World) (hr : Rd w A (armVCells o.arms)) (hok : OpOk o) :
  Calls Tryz.prog 71 #[o.val (.slice A o.arms.length c)] w fun e w' => ∃ A' c', e = .returned ((cutO o).val (.slice A' (cutO o).arms.length c')) ∧ w'.ownsRow w.heap.size 99 2 (.slice A' (cutO o).arms.length c') (cutO o).arms.length (armVCells (cutO o).arms) ∧ Below w.heap.size w w' := by
 obtain ⟨k, tx, nn, tt, arms, oT, oE⟩ := o
 have HOK := hid hok
 obtain ⟨-, htx, -, -, hal, harm, -, -⟩ := hok
 simp only at htx hal harm hr
 have HR := hid hr; have HARM := hid harm
 have C0 : Hid (∀ W, Calls Tryz.prog 62 #[.string tx, .int .i64 300] W fun e w' => e = .returned (.string (cutM 300 tx)) ∧ W = w') := fun W => cut_any tx 300 W htx (by omega)
 obtain ⟨R, hR⟩ : ∃ R, (arms.take 10).map cutA = R := ⟨_, rfl⟩
 show Calls Tryz.prog 71 #[.agg #[.int .i64 k, .string tx, .int .i64 nn, .int .i64 tt, .slice A arms.length c, .int .i64 oT, .int .i64 oE]] w fun e w' => ∃ A' c', e = .returned (.agg #[.int .i64 k, .string (cutM 300 tx), .int .i64 nn, .int .i64 tt, .slice A' ((arms.take 10).map cutA).length c', .int .i64 oT, .int .i64 oE]) ∧ w'.ownsRow w.heap.size 99 2 (.slice A' ((arms.take 10).map cutA).length c') ((arms.take 10).map cutA).length (armVCells ((arms.take 10).map cutA)) ∧ Below w.heap.size w w'
 rw [hR]
 have HRR := hid hR
 obtain ⟨n, hn⟩ : ∃ n, arms.length = n := ⟨_, rfl⟩
 have HN := hid hn
 obtain ⟨ct, hct⟩ : ∃ s, cutM 300 tx = s := ⟨_, rfl⟩
 rw [hct] at C0 ⊢
 rw [hn] at hal ⊢
 clear hR hn hct hr harm
 go_enter Tryz.func71, Tryz.ntmps71
 go_wp2_with fail
 refine (C0.out _).mono ?_
 rintro en w1 ⟨rfl, rfl⟩
 go_upto_region 3 with fail
 obtain ⟨w1, hw1⟩ : ∃ W, ((w.alloc (.cells #[.int .i64 k, .string ct, .int .i64 nn, .int .i64 tt, .slice (some ⟨w.heap.size + 1 + 1, 0, none⟩) 0 0, .int .i64 oT, .int .i64 oE] 56)).alloc
  (.cells #[.int .i64 0, .string ⟨#[]⟩, .int .i64 0, .int .i64 0, .slice none 0 0, .int .i64 0, .int .i64 0] 56)).alloc (.cells #[] 99) = W := ⟨_, rfl⟩
 have HB1 : Hid (Below w.heap.size w w1) := by rw [← hw1]; exact below3 _ _ _ _
 have HX1 : Hid (Blk w1 w.heap.size 56 #[.int .i64 k, .string ct, .int .i64 nn, .int .i64 tt, .slice (some ⟨w.heap.size + 1 + 1, 0, none⟩) 0 0, .int .i64 oT, .int .i64 oE]) := by rw [← hw1]; exact ((Blk.new w _ _).alloc _).alloc _
 have HZ1 : Hid (Blk w1 (w.heap.size + 1) 56 #[.int .i64 0, .string ⟨#[]⟩, .int .i64 0, .int .i64 0, .slice none 0 0, .int .i64 0, .int .i64 0]) := by rw [← hw1]; exact (new2 _ _ _ _).alloc _
 have HO1 : Hid (w1.ownsRow w.heap.size 99 2 (.slice (some ⟨w.heap.size + 1 + 1, 0, none⟩) 0 0) 0 []) := by
  rw [Hid, ← hw1]
  have := World.ownsRow_made (base := w.heap.size) (e := 99) (size := 2) ((w.alloc (.cells #[.int .i64 k, .string ct, .int .i64 nn, .int .i64 tt, .slice (some ⟨w.heap.size + 1 + 1, 0, none⟩) 0 0, .int .i64 oT, .int .i64 oE] 56)).alloc
   (.cells #[.int .i64 0, .string ⟨#[]⟩, .int .i64 0, .int .i64 0, .slice none 0 0, .int .i64 0, .int .i64 0] 56)) #[] 0 (by simp; omega) (by simp [maxLen]) (by simp)
  simpa using this
 rw [hw1]
 clear hw1
 obtain ⟨ge, hge⟩ : ∃ g, w.heap.size + 1 + 1 = g := ⟨_, rfl⟩
 rw [hge] at HX1 HO1 ⊢
 obtain ⟨gb, hgb⟩ : ∃ g, w.heap.size = g := ⟨_, rfl⟩
 have HGB := hid hgb
 rw [hgb] at HX1 HO1 HZ1 ⊢
 have HBB : Hid (Below gb w w1) := by rw [← hgb]; exact HB1.out
 clear hge hgb C0 HB1
 go_wp2_with fail
 go_loopw [4] (fun iv wr => ∃ (i c' : Nat) (A' : Option Addr), i ≤ n ∧ i ≤ 10 ∧ iv = .int .i64 (i : Int) ∧ Blk wr gb 56 #[.int .i64 k, .string ct, .int .i64 nn, .int .i64 tt, .slice A' i c', .int .i64 oT, .int .i64 oE] ∧
   Blk wr (gb + 1) 56 #[.int .i64 0, .string ⟨#[]⟩, .int .i64 0, .int .i64 0, .slice none 0 0, .int .i64 0, .int .i64 0] ∧
   wr.ownsRow gb 99 2 (.slice A' i c') i (armVCells ((arms.take i).map cutA)) ∧ Below gb w wr) (fun iv _ => n - (intOf iv).toNat)
 case atStart => exact ⟨0, 0, some ⟨ge, 0, none⟩, by omega, by omega, rfl, HX1.out, HZ1.out, HO1.out, HBB.out⟩
 case round =>
  obtain ⟨i, c', A', hi, hi10, rfl, hX, hZ, hown, hb⟩ := hrel
  have HX := hid hX; have HZ := hid hZ; have HO := hid hown; have HB := hid hb
  have hgs : w.heap.size ≤ wr.heap.size := hb.size
  have hsz0 : gb ≤ wr.heap.size := by have := HGB.out; omega
  clear hX hZ hown hb HX1 HZ1 HO1 HBB hgs
  by_cases hlt : i < n
  ·by_cases hl10 : i < 10
   ·have HK : Hid (i < arms.length) := by rw [Hid, HN.out]; exact hlt
    obtain ⟨b1, off1, rfl, hbl, hc⟩ := (HR.out.below (show Below w.heap.size w wr by rw [HGB.out]; exact HB.out)).at (by rw [armVCells_length, HN.out]; omega)
    obtain ⟨e0, e1⟩ := arm_at hc i HK.out
    have HM := hid (HARM.out _ (List.getElem_mem HK.out))
    have HTK : Hid (armVCells ((arms.take (i + 1)).map cutA) = armVCells ((arms.take i).map cutA) ++ (cutA (arms[i]'HK.out)).cells) := by
     rw [Hid, List.take_succ_eq_append_getElem HK.out, List.map_append, armVCells_append]; simp [armVCells]
    obtain ⟨⟨pa, ta⟩, hx⟩ : ∃ x, arms[i]'HK.out = x := ⟨_, rfl⟩
    rw [hx] at e0 e1 HM HTK
    simp only at e0 e1
    have C1 : Hid (∀ W, Calls Tryz.prog 62 #[.string pa, .int .i64 70] W fun e w' => e = .returned (.string (cutM 70 pa)) ∧ W = w') := fun W => cut_any pa 70 W HM.out.1 (by omega)
    have HTK2 : Hid (armVCells ((arms.take (i + 1)).map cutA) = armVCells ((arms.take i).map cutA) ++ [.string (cutM 70 pa), .int .i64 ta]) := HTK.out
    obtain ⟨cp, hcp⟩ : ∃ s, cutM 70 pa = s := ⟨_, rfl⟩
    rw [hcp] at C1 HTK2
    obtain ⟨xs, hxs⟩ : ∃ l, armVCells ((arms.take i).map cutA) = l := ⟨_, rfl⟩
    rw [hxs] at HTK2 HO
    clear hx hcp HTK hxs hc
    go_upto_region 6 with fail
    refine wp_region_ord (.val 0 (.val 2 (.val 3 (.val 4 (.val 5 (.val 8 (.val 9 (.val 10 (.val 11 (.three 1 (.two 6 (.two 7 (.op 12 (.val 13 (.op 14 (.op 15 (.val 16 (.op 17 (.nil))))))) 12 (.op 7 (.val 13 (.op 14 (.op 15 (.val 16 (.op 17 (.nil)))))))) 12 (.op 6 (.op 7 (.val 13 (.op 14 (.op 15 (.val 16 (.op 17 (.nil))))))))) 6 (.three 1 (.two 7 (.op 12 (.val 13 (.op 14 (.op 15 (.val 16 (.op 17 (.nil))))))) 12 (.op 7 (.val 13 (.op 14 (.op 15 (.val 16 (.op 17 (.nil)))))))) 7 (.two 1 (.op 12 (.val 13 (.op 14 (.op 15 (.val 16 (.op 17 (.nil))))))) 12 (.val 13 (.two 1 (.op 14 (.op 15 (.val 16 (.op 17 (.nil))))) 14 (.op 1 (.op 15 (.val 16 (.op 17 (.nil)))))))) 12 (.two 1 (.op 7 (.val 13 (.op 14 (.op 15 (.val 16 (.op 17 (.nil))))))) 7 (.val 13 (.two 1 (.op 14 (.op 15 (.val 16 (.op 17 (.nil))))) 14 (.op 1 (.op 15 (.val 16 (.op 17 (.nil))))))))) 12 (.two 1 (.op 6 (.op 7 (.val 13 (.op 14 (.op 15 (.val 16 (.op 17 (.nil)))))))) 6 (.two 1 (.op 7 (.val 13 (.op 14 (.op 15 (.val 16 (.op 17 (.nil))))))) 7 (.val 13 (.two 1 (.op 14 (.op 15 (.val 16 (.op 17 (.nil))))) 14 (.op 1 (.op 15 (.val 16 (.op 17 (.nil))))))))))))))))))) (by kernel_rfl) (by kernel_rfl) ?_
    obtain ⟨w3, hw3⟩ : ∃ w3, wr.drewN 1 = w3 := ⟨_, rfl⟩
    have HD3 : Hid (Below wr.heap.size wr w3) := by rw [← hw3]; exact drewN_below wr 1
    have HX3 := hid (HX.out.below HD3.out HX.out.lt)
    have HZ3 := hid (HZ.out.below HD3.out HZ.out.lt)
    have HO3 := hid (own_below HO.out HD3.out)
    have HB3 := hid (HB.out.trans (HD3.out.mono hsz0))
    have hsz : gb ≤ w3.heap.size := Nat.le_trans hsz0 HD3.out.size
    have d0 := (HD3.out.cell (p := ⟨b1, off1 + i * 2, none⟩) hbl).trans e0
    have d1 := (HD3.out.cell (p := ⟨b1, off1 + i * 2 + 1, none⟩) hbl).trans e1
    have hc0 : b1 < w3.heap.size := Nat.lt_of_lt_of_le hbl HD3.out.size
    rw [hw3]
    clear hw3 HD3 HX HZ HO HB e0 e1 hbl hsz0
    have q4 := HX3.out.cell 4
    have ql := HX3.out.lt
    have q4x := (HX3.out.alloc (.cells #[.string cp, .int .i64 ta] 99)).cell 4
    have qlx := (HX3.out.alloc (.cells #[.string cp, .int .i64 ta] 99)).lt
    simp only [List.getElem?_toArray, List.getElem?_cons_zero, List.getElem?_cons_succ] at q4 q4x
    have HEND : Hid (∀ (g5 c5 : Nat) (w5 : World), w5.ownsRow gb 99 2 (.slice (some ⟨g5, 0, none⟩) (i + 1) c5) (i + 1) (xs ++ [.string cp, .int .i64 ta]) → Keep (fun k => (Value.slice A' i c').ownBlock = some k) w3 w5 →
      Blk w5 gb 56 #[.int .i64 k, .string ct, .int .i64 nn, .int .i64 tt, .slice A' i c', .int .i64 oT, .int .i64 oE] ∧ Blk w5 (gb + 1) 56 #[.int .i64 0, .string ⟨#[]⟩, .int .i64 0, .int .i64 0, .slice none 0 0, .int .i64 0, .int .i64 0] ∧ Below gb w w5 ∧
      w5.ownsRow gb 99 2 (.slice (some ⟨g5, 0, none⟩) (i + 1) c5) (i + 1) (armVCells ((arms.take (i + 1)).map cutA)) ∧ g5 ≠ gb) := by
     intro g5 c5 w5 hown5 hk5
     have hX5 := hk5.blk HX3.out (fun h => blk_ne HX3.out HO3.out (by decide) h)
     refine ⟨hX5, hk5.blk HZ3.out (fun h => blk_ne HZ3.out HO3.out (by decide) h), HB3.out.trans (hk5.below hsz (fun k hk => (HO3.out.lt k hk).1)), by rw [HTK2.out]; exact hown5, ?_⟩
     rintro rfl
     exact absurd rfl (blk_ne hX5 hown5 (by decide))
    iterate 9 (refine wpOrd_val rfl ?_; go_big_quiet_step (fail); refine wpQuiet_nil ?_)
    focus
     refine wpOrd_three rfl rfl rfl ?_ ?_ ?_
     focus
      skip
      go_wp2_with fail
      refine wpOrd_two rfl rfl ?_ ?_
      focus
       skip
       go_wp2_with fail
       refine wpOrd_two rfl rfl ?_ ?_
       focus
        skip
        go_wp2_with fail
        refine (C1.out _).mono ?_
        rintro en w4 ⟨rfl, rfl⟩
        go_wp2_with fail
        refine wpOrd_op rfl ?_
        go_wp2_with fail
        refine wpOrd_val rfl ?_
        go_big_quiet_step (fail)
        refine wpQuiet_nil ?_
       rotate_left 1
       focus
        skip
        go_wp2_with fail
        refine wpOrd_op rfl ?_
        go_wp2_with fail
        refine (C1.out _).mono ?_
        rintro en w4 ⟨rfl, rfl⟩
        go_wp2_with fail
        refine wpOrd_val rfl ?_
        go_big_quiet_step (fail)
        refine wpQuiet_nil ?_
      rotate_left 2
      focus
       skip
       go_wp2_with fail
       refine wpOrd_op rfl ?_
       go_wp2_with fail
       refine wpOrd_op rfl ?_
       go_wp2_with fail
       refine (C1.out _).mono ?_
       rintro en w4 ⟨rfl, rfl⟩
       go_wp2_with fail
       refine wpOrd_val rfl ?_
       go_big_quiet_step (fail)
       refine wpQuiet_nil ?_
     rotate_left 3
     focus
      skip
      go_wp2_with fail
      refine wpOrd_three rfl rfl rfl ?_ ?_ ?_
      focus
       skip
       go_wp2_with fail
       refine wpOrd_two rfl rfl ?_ ?_
       focus
        skip
        go_wp2_with fail
        refine (C1.out _).mono ?_
        rintro en w4 ⟨rfl, rfl⟩
        go_wp2_with fail
        refine wpOrd_op rfl ?_
        go_wp2_with fail
        refine wpOrd_val rfl ?_
        go_big_quiet_step (fail)
        refine wpQuiet_nil ?_
       rotate_left 1
       focus
        skip
        go_wp2_with fail
        refine wpOrd_op rfl ?_
        go_wp2_with fail
        refine (C1.out _).mono ?_
        rintro en w4 ⟨rfl, rfl⟩
        go_wp2_with fail
        refine wpOrd_val rfl ?_
        go_big_quiet_step (fail)
        refine wpQuiet_nil ?_
      rotate_left 2
      focus
       skip
       go_wp2_with fail
       refine (C1.out _).mono ?_
       rintro en w4 ⟨rfl, rfl⟩
       go_wp2_with fail
       refine wpOrd_two rfl rfl ?_ ?_
       focus
        skip
        go_wp2_with fail
        refine wpOrd_op rfl ?_
        go_wp2_with fail
        refine wpOrd_val rfl ?_
        go_big_quiet_step (fail)
        refine wpQuiet_nil ?_
       rotate_left 1
       focus
        skip
        go_wp2_with fail
        refine wpOrd_val rfl ?_
        go_big_quiet_step (fail)
        refine wpQuiet_nil ?_
        refine wpOrd_two rfl rfl ?_ ?_
        focus
         skip
         go_wp2_with fail
        rotate_left 1
        focus
         skip
         go_wp2_with fail
      rotate_left 3
      focus
       skip
       go_wp2_with fail
       refine wpOrd_two rfl rfl ?_ ?_
       focus
        skip
        go_wp2_with fail
        refine wpOrd_op rfl ?_
        go_wp2_with fail
        refine (C1.out _).mono ?_
        rintro en w4 ⟨rfl, rfl⟩
        go_wp2_with fail
        refine wpOrd_val rfl ?_
        go_big_quiet_step (fail)
        refine wpQuiet_nil ?_
       rotate_left 1
       focus
        skip
        go_wp2_with fail
        refine (C1.out _).mono ?_
        rintro en w4 ⟨rfl, rfl⟩
        go_wp2_with fail
        refine wpOrd_val rfl ?_
        go_big_quiet_step (fail)
        refine wpQuiet_nil ?_
        refine wpOrd_two rfl rfl ?_ ?_
        focus
         skip
         go_wp2_with fail
        rotate_left 1
        focus
         skip
         go_wp2_with fail
     rotate_left 8
     focus
      skip
      go_wp2_with fail
      refine wpOrd_two rfl rfl ?_ ?_
      focus
       skip
       go_wp2_with fail
       refine wpOrd_op rfl ?_
       go_wp2_with fail
       refine wpOrd_op rfl ?_
       go_wp2_with fail
       refine (C1.out _).mono ?_
       rintro en w4 ⟨rfl, rfl⟩
       go_wp2_with fail
       refine wpOrd_val rfl ?_
       go_big_quiet_step (fail)
       refine wpQuiet_nil ?_
      rotate_left 1
      focus
       skip
       go_wp2_with fail
       refine wpOrd_two rfl rfl ?_ ?_
       focus
        skip
        go_wp2_with fail
        refine wpOrd_op rfl ?_
        go_wp2_with fail
        refine (C1.out _).mono ?_
        rintro en w4 ⟨rfl, rfl⟩
        go_wp2_with fail
        refine wpOrd_val rfl ?_
        go_big_quiet_step (fail)
        refine wpQuiet_nil ?_
       rotate_left 1
       focus
        skip
        go_wp2_with fail
        refine (C1.out _).mono ?_
        rintro en w4 ⟨rfl, rfl⟩
        go_wp2_with fail
        refine wpOrd_val rfl ?_
        go_big_quiet_step (fail)
        refine wpQuiet_nil ?_
        refine wpOrd_two rfl rfl ?_ ?_
        focus
         skip
         go_wp2_with fail
        rotate_left 1
        focus
         skip
         go_wp2_with fail
     all_goals
      refine wpOrd_op rfl ?_
      go_wp2_with fail
      refine wpOrd_op rfl ?_
      go_wp2_with (at_builtin; refine wpList_append1K _ rfl _ _ 54 rfl gb 99 _ 2 24 Tryz.underlying54 Tryz.infoArmV rfl (by decide) _ _ _ rfl HO3.out 1 [.string cp, .int .i64 ta] rfl rfl rfl ?_ (by decide) hsz ?_)
      ·omega
      intro g5 c5 w5 hown5 hk5 hf5
      obtain ⟨HX5, HZ5, HB5, HO5, hg5⟩ := HEND.out g5 c5 w5 hown5 hk5
      have q5 := HX5.cell 4
      have qf5 := HX5.frozen 4
      have ql5 := HX5.lt
      have HX5 := hid HX5; have HZ5 := hid HZ5; have HB5 := hid HB5; have HO5 := hid HO5
      clear hown5 hk5 hf5 q4 q4x ql qlx d0 d1 hc0
      go_wp2_with fail
      refine wpOrd_val rfl ?_
      go_big_quiet_step (fail)
      refine wpQuiet_nil ?_
      refine wpOrd_op rfl ?_
      go_wp2_with fail
      refine wpOrd_nil ?_
      go_wp2_with fail
      go_roundw
      case rel => exact ⟨i + 1, c5, some ⟨g5, 0, none⟩, by omega, by omega, by go_num, HX5.out.set 4 _, HZ5.out.set_far (by omega), own_kept_set HO5.out ⟨gb, 4, none⟩ _ (by simp [Value.ownBlock, hg5]), HB5.out.setCell (Nat.le_refl _) _⟩
      case measure => simp [intOf]; omega
   ·have HE : Hid (R = (arms.take i).map cutA ∧ R.length = i) := by
     have e : R = (arms.take i).map cutA := by rw [← HRR.out, show i = 10 from by omega]
     exact ⟨e, by rw [e, List.length_map, List.length_take, HN.out]; omega⟩
    obtain ⟨x0, x1, x2, x3, x4, x5, x6⟩ := fact7 HX.out
    have xl := HX.out.lt
    obtain ⟨z0, z1, z2, z3, z4, z5, z6⟩ := fact7 HZ.out
    have f0 := HZ.out.frozen 0; have f1 := HZ.out.frozen 1; have f2 := HZ.out.frozen 2; have f3 := HZ.out.frozen 3; have f4 := HZ.out.frozen 4; have f5 := HZ.out.frozen 5; have f6 := HZ.out.frozen 6
    have zl := HZ.out.lt
    go_wp2_with fail
    obtain ⟨wf, hwf⟩ : ∃ W, set7 wr (gb + 1) (.int .i64 k) (.string ct) (.int .i64 nn) (.int .i64 tt) (.slice A' i c') (.int .i64 oT) (.int .i64 oE) = W := ⟨_, rfl⟩
    have HZF : Blk wf (gb + 1) 56 #[.int .i64 k, .string ct, .int .i64 nn, .int .i64 tt, .slice A' i c', .int .i64 oT, .int .i64 oE] := by rw [← hwf]; exact set7_blk HZ.out _ _ _ _ _ _ _
    have HOF : Hid (wf.ownsRow gb 99 2 (.slice A' i c') i (armVCells ((arms.take i).map cutA))) := by rw [← hwf]; exact set7_own HO.out (blk_ne HZ.out HO.out (by decide)) _ _ _ _ _ _ _
    have HBF : Hid (Below gb w wf) := by rw [← hwf]; exact set7_below HB.out (Nat.le_succ _) _ _ _ _ _ _ _
    unfold set7 at hwf
    rw [hwf]
    obtain ⟨r0, r1, r2, r3, r4, r5, r6⟩ := fact7 HZF
    have hi' := HE.out.2
    refine bodyPost_ret (v := .agg #[.int .i64 k, .string ct, .int .i64 nn, .int .i64 tt, .slice A' i c', .int .i64 oT, .int .i64 oE]) (by simp [results, Tryz.results71, go_sem, r0, r1, r2, r3, r4, r5, r6]) rfl ?_
    rw [hi', HE.out.1, HGB.out]
    exact ⟨_, _, rfl, HOF.out, HBF.out⟩
  ·have HE : Hid (R = (arms.take i).map cutA ∧ R.length = i) := by
    have e : R = (arms.take i).map cutA := by rw [← HRR.out, List.take_of_length_le (by rw [HN.out]; omega), List.take_of_length_le (by rw [HN.out]; omega)]
    exact ⟨e, by rw [e, List.length_map, List.length_take, HN.out]; omega⟩
   obtain ⟨x0, x1, x2, x3, x4, x5, x6⟩ := fact7 HX.out
   have xl := HX.out.lt
   obtain ⟨z0, z1, z2, z3, z4, z5, z6⟩ := fact7 HZ.out
   have f0 := HZ.out.frozen 0; have f1 := HZ.out.frozen 1; have f2 := HZ.out.frozen 2; have f3 := HZ.out.frozen 3; have f4 := HZ.out.frozen 4; have f5 := HZ.out.frozen 5; have f6 := HZ.out.frozen 6
   have zl := HZ.out.lt
   go_wp2_with fail
   obtain ⟨wf, hwf⟩ : ∃ W, set7 wr (gb + 1) (.int .i64 k) (.string ct) (.int .i64 nn) (.int .i64 tt) (.slice A' i c') (.int .i64 oT) (.int .i64 oE) = W := ⟨_, rfl⟩
   have HZF : Blk wf (gb + 1) 56 #[.int .i64 k, .string ct, .int .i64 nn, .int .i64 tt, .slice A' i c', .int .i64 oT, .int .i64 oE] := by rw [← hwf]; exact set7_blk HZ.out _ _ _ _ _ _ _
   have HOF : Hid (wf.ownsRow gb 99 2 (.slice A' i c') i (armVCells ((arms.take i).map cutA))) := by rw [← hwf]; exact set7_own HO.out (blk_ne HZ.out HO.out (by decide)) _ _ _ _ _ _ _
   have HBF : Hid (Below gb w wf) := by rw [← hwf]; exact set7_below HB.out (Nat.le_succ _) _ _ _ _ _ _ _
   unfold set7 at hwf
   rw [hwf]
   obtain ⟨r0, r1, r2, r3, r4, r5, r6⟩ := fact7 HZF
   have hi' := HE.out.2
   refine bodyPost_ret (v := .agg #[.int .i64 k, .string ct, .int .i64 nn, .int .i64 tt, .slice A' i c', .int .i64 oT, .int .i64 oE]) (by simp [results, Tryz.results71, go_sem, r0, r1, r2, r3, r4, r5, r6]) rfl ?_
   rw [hi', HE.out.1, HGB.out]
   exact ⟨_, _, rfl, HOF.out, HBF.out⟩
def ArmsOwn (base : Nat) (w : World) (o : OpV) (v : Value) : Prop := ∃ A c, v = .slice A o.arms.length c ∧ w.ownsRow base 99 2 v o.arms.length (armVCells o.arms)
theorem ArmsOwn.inn {base : Nat} {w : World} {o : OpV} {v : Value} (h : ArmsOwn base w o v) : ArmsIn w o v := by
 obtain ⟨A, c, rfl, h⟩ := h
 exact ⟨A, c, rfl, Rd_of_own h⟩
theorem ArmsOwn.below {base B : Nat} {w w' : World} {o : OpV} {v : Value} (h : ArmsOwn base w o v) (hb : Below B w w') (hB : w.heap.size ≤ B) : ArmsOwn base w' o v := by
 obtain ⟨A, c, h1, h⟩ := h
 exact ⟨A, c, h1, own_below h hb hB⟩
theorem ArmsOwn.base {base b2 : Nat} {w : World} {o : OpV} {v : Value} (h : ArmsOwn base w o v) (hB : b2 ≤ base) : ArmsOwn b2 w o v := by
 obtain ⟨A, c, h1, h⟩ := h
 exact ⟨A, c, h1, own_base h hB⟩
theorem ArmsOwn.keep1 {base b2 e2 s2 n2 : Nat} {w w' : World} {o : OpV} {v v2 : Value} {xs : List Value} (h : ArmsOwn base w o v) (h2 : w.ownsRow b2 e2 s2 v2 n2 xs) (hk : Keep (fun k => v2.ownBlock = some k) w w') (hne : 99 ≠ e2) : ArmsOwn base w' o v := by
 obtain ⟨A, c, h1, h⟩ := h
 refine ⟨A, c, h1, hk.own h (fun k hv hk2 => ?_)⟩
 rcases own_ne h h2 hne with h3 | h3
 ·rw [h3] at hv; cases hv
 ·rw [hv, hk2] at h3; exact h3 rfl
theorem ArmsOwn.set {base g i : Nat} {w : World} {o : OpV} {v u : Value} {t : TypeId} {cs : Array Value} (h : ArmsOwn base w o v) (hb : Blk w g t cs) (hne : 99 ≠ t) : ArmsOwn base (w.setCell ⟨g, i, none⟩ u) o v := by
 obtain ⟨A, c, h1, h⟩ := h
 exact ⟨A, c, h1, own_kept_set h ⟨g, i, none⟩ u (blk_ne hb h hne)⟩
def OpsOwn (base : Nat) (w : World) (v : Value) (l : List OpV) : Prop :=
 ∃ xs : List (OpV × Value), xs.map Prod.fst = l ∧ w.ownsRow base 56 7 v l.length (opVCells xs) ∧ ∀ x ∈ xs, ArmsOwn base w x.1 x.2
theorem OpsOwn.inn {base n c : Nat} {w : World} {A : Option Addr} {l : List OpV} (h : OpsOwn base w (.slice A n c) l) (hn : l.length = n) : OpsIn w A l := by
 subst hn
 obtain ⟨xs, h1, h2, h3⟩ := h
 exact ⟨xs, h1, Rd_of_own h2, fun x hx => (h3 x hx).inn⟩
theorem OpsOwn.below {base B : Nat} {w w' : World} {v : Value} {l : List OpV} (h : OpsOwn base w v l) (hb : Below B w w') (hB : w.heap.size ≤ B) : OpsOwn base w' v l := by
 obtain ⟨xs, h1, h2, h3⟩ := h
 exact ⟨xs, h1, own_below h2 hb hB, fun x hx => (h3 x hx).below hb hB⟩
theorem OpsOwn.base {base b2 : Nat} {w : World} {v : Value} {l : List OpV} (h : OpsOwn base w v l) (hB : b2 ≤ base) : OpsOwn b2 w v l := by
 obtain ⟨xs, h1, h2, h3⟩ := h
 exact ⟨xs, h1, own_base h2 hB, fun x hx => (h3 x hx).base hB⟩
theorem OpsOwn.set {base g i : Nat} {w : World} {v u : Value} {l : List OpV} {cs : Array Value} (h : OpsOwn base w v l) (hb : Blk w g 26 cs) : OpsOwn base (w.setCell ⟨g, i, none⟩ u) v l := by
 obtain ⟨xs, h1, h2, h3⟩ := h
 exact ⟨xs, h1, own_kept_set h2 ⟨g, i, none⟩ u (blk_ne hb h2 (by decide)), fun x hx => (h3 x hx).set hb (by decide)⟩
def set4 (w : World) (g : Nat) (a b c d : Value) : World := (((w.setCell ⟨g, 0, none⟩ a).setCell ⟨g, 1, none⟩ b).setCell ⟨g, 2, none⟩ c).setCell ⟨g, 3, none⟩ d
theorem set4_blk {w : World} {g : Nat} {t : TypeId} {x0 x1 x2 x3 : Value} (h : Blk w g t #[x0, x1, x2, x3]) (a b c d : Value) : Blk (set4 w g a b c d) g t #[a, b, c, d] := by
 have h0 : Blk _ g t #[a, x1, x2, x3] := h.set 0 a
 have h1 : Blk _ g t #[a, b, x2, x3] := h0.set 1 b
 have h2 : Blk _ g t #[a, b, c, x3] := h1.set 2 c
 exact h2.set 3 d
theorem set4_ops {w : World} {base g : Nat} {v : Value} {l : List OpV} {cs : Array Value} (h : OpsOwn base w v l) (hb : Blk w g 26 cs) (a b c d : Value) : OpsOwn base (set4 w g a b c d) v l :=
 (((h.set (i := 0) (u := a) hb).set (i := 1) (u := b) (hb.set 0 a)).set (i := 2) (u := c) ((hb.set 0 a).set 1 b)).set (i := 3) (u := d) (((hb.set 0 a).set 1 b).set 2 c)
theorem set4_below {B g : Nat} {w w1 : World} (h : Below B w w1) (hg : B ≤ g) (a b c d : Value) : Below B w (set4 w1 g a b c d) :=
 (((h.setCell hg a).setCell hg b).setCell hg c).setCell hg d
set_option maxRecDepth 20000 in
set_option maxHeartbeats 4000000 in
theorem fewP_any (p : ProgV) (A : Option Addr) (c most : Nat) (w : World) (hin : OpsIn w A p.ops) (hok : ProgOk p) (hm : most ≤ 1000) :
  Calls Tryz.prog 26 #[p.val (.slice A p.ops.length c), .int .i64 (most : Int)] w fun e w' => ∃ A' c', e = .returned ((fewP p most).val (.slice A' (fewP p most).ops.length c')) ∧ OpsOwn w.heap.size w' (.slice A' (fewP p most).ops.length c') (fewP p most).ops ∧ Below w.heap.size w w' := by
 obtain ⟨nm, dl, jp, ops⟩ := p
 obtain ⟨htx, -, -, hal, hops⟩ := hok
 simp only at htx hal hops hin
 have HIN := hid hin; have HOPS := hid hops
 have C0 : Hid (∀ W, Calls Tryz.prog 62 #[.string nm, .int .i64 20] W fun e w' => e = .returned (.string (cutM 20 nm)) ∧ W = w') := fun W => cut_any nm 20 W htx (by omega)
 obtain ⟨R, hR⟩ : ∃ R, (ops.take most).map cutO = R := ⟨_, rfl⟩
 show Calls Tryz.prog 26 #[.agg #[.string nm, .int .i64 dl, .int .i64 jp, .slice A ops.length c], .int .i64 (most : Int)] w fun e w' => ∃ A' c', e = .returned (.agg #[.string (cutM 20 nm), .int .i64 dl, .int .i64 jp, .slice A' ((ops.take most).map cutO).length c']) ∧ OpsOwn w.heap.size w' (.slice A' ((ops.take most).map cutO).length c') ((ops.take most).map cutO) ∧ Below w.heap.size w w'
 rw [hR]
 have HRR := hid hR
 obtain ⟨n, hn⟩ : ∃ n, ops.length = n := ⟨_, rfl⟩
 have HN := hid hn
 obtain ⟨ct, hct⟩ : ∃ s, cutM 20 nm = s := ⟨_, rfl⟩
 rw [hct] at C0 ⊢
 rw [hn] at hal ⊢
 clear hR hn hct hin hops
 go_enter Tryz.func26, Tryz.ntmps26
 go_wp2_with fail
 refine (C0.out _).mono ?_
 rintro en w1 ⟨rfl, rfl⟩
 go_upto_region 3 with fail
 obtain ⟨w1, hw1⟩ : ∃ W, ((w.alloc (.cells #[.string ct, .int .i64 dl, .int .i64 jp, .slice (some ⟨w.heap.size + 1 + 1, 0, none⟩) 0 0] 26)).alloc (.cells #[.string ⟨#[]⟩, .int .i64 0, .int .i64 0, .slice none 0 0] 26)).alloc (.cells #[] 56) = W := ⟨_, rfl⟩
 have HB1 : Hid (Below w.heap.size w w1) := by rw [← hw1]; exact below3 _ _ _ _
 have HX1 : Hid (Blk w1 w.heap.size 26 #[.string ct, .int .i64 dl, .int .i64 jp, .slice (some ⟨w.heap.size + 1 + 1, 0, none⟩) 0 0]) := by rw [← hw1]; exact ((Blk.new w _ _).alloc _).alloc _
 have HZ1 : Hid (Blk w1 (w.heap.size + 1) 26 #[.string ⟨#[]⟩, .int .i64 0, .int .i64 0, .slice none 0 0]) := by rw [← hw1]; exact (new2 _ _ _ _).alloc _
 have HO1 : Hid (w1.ownsRow w.heap.size 56 7 (.slice (some ⟨w.heap.size + 1 + 1, 0, none⟩) 0 0) 0 []) := by
  rw [Hid, ← hw1]
  have := World.ownsRow_made (base := w.heap.size) (e := 56) (size := 7) ((w.alloc (.cells #[.string ct, .int .i64 dl, .int .i64 jp, .slice (some ⟨w.heap.size + 1 + 1, 0, none⟩) 0 0] 26)).alloc (.cells #[.string ⟨#[]⟩, .int .i64 0, .int .i64 0, .slice none 0 0] 26)) #[] 0 (by simp; omega) (by simp [maxLen]) (by simp)
  simpa using this
 rw [hw1]
 clear hw1
 obtain ⟨ge, hge⟩ : ∃ g, w.heap.size + 1 + 1 = g := ⟨_, rfl⟩
 rw [hge] at HX1 HO1 ⊢
 obtain ⟨gb, hgb⟩ : ∃ g, w.heap.size = g := ⟨_, rfl⟩
 have HGB := hid hgb
 rw [hgb] at HX1 HO1 HZ1 ⊢
 have HBB : Hid (Below gb w w1) := by rw [← hgb]; exact HB1.out
 clear hge hgb C0 HB1
 go_wp2_with fail
 go_loopw [6] (fun iv wr => ∃ (i c' : Nat) (A' : Option Addr) (xs : List (OpV × Value)), i ≤ n ∧ i ≤ most ∧ iv = .int .i64 (i : Int) ∧ Blk wr gb 26 #[.string ct, .int .i64 dl, .int .i64 jp, .slice A' i c'] ∧ Blk wr (gb + 1) 26 #[.string ⟨#[]⟩, .int .i64 0, .int .i64 0, .slice none 0 0] ∧
   wr.ownsRow gb 56 7 (.slice A' i c') i (opVCells xs) ∧ xs.map Prod.fst = (ops.take i).map cutO ∧ (∀ x ∈ xs, ArmsOwn gb wr x.1 x.2) ∧ Below gb w wr) (fun iv _ => n - (intOf iv).toNat)
 case atStart => exact ⟨0, 0, some ⟨ge, 0, none⟩, [], by omega, by omega, rfl, HX1.out, HZ1.out, HO1.out, rfl, by simp, HBB.out⟩
 case round =>
  obtain ⟨i, c', A', xs, hi, him, rfl, hX, hZ, hown, hxs, harms, hb⟩ := hrel
  have HX := hid hX; have HZ := hid hZ; have HO := hid hown; have HB := hid hb; have HXS := hid hxs; have HA := hid harms
  have hgs : w.heap.size ≤ wr.heap.size := hb.size
  have hsz0 : gb ≤ wr.heap.size := by have := HGB.out; omega
  clear hX hZ hown hb HX1 HZ1 HO1 HBB hgs hxs harms
  by_cases hlt : i < n
  ·by_cases hlm : i < most
   ·have HK : Hid (i < ops.length) := by rw [Hid, HN.out]; exact hlt
    obtain ⟨b1, off1, v1, rfl, hbl, hv1, e0, e1, e2, e3, e4, e5, e6⟩ := (HIN.out.below (show Below w.heap.size w wr by rw [HGB.out]; exact HB.out)).at i HK.out
    have HM := hid (HOPS.out _ (List.getElem_mem HK.out))
    have HTK : Hid ((ops.take (i + 1)).map cutO = (ops.take i).map cutO ++ [cutO (ops[i]'HK.out)]) := by
     rw [Hid, List.take_succ_eq_append_getElem HK.out, List.map_append]; rfl
    obtain ⟨o, ho⟩ : ∃ x, ops[i]'HK.out = x := ⟨_, rfl⟩
    rw [ho] at e0 e1 e2 e3 e5 e6 HM HTK hv1
    obtain ⟨A1, c1, hv2, hra⟩ := hv1
    subst hv2
    clear ho
    obtain ⟨ok, otx, on, ott, oar, oT, oE⟩ := o
    simp only at e0 e1 e2 e3 e4 e5 e6 hra
    have CO : Hid (∀ W, Rd W A1 (armVCells oar) → Calls Tryz.prog 71 #[.agg #[.int .i64 ok, .string otx, .int .i64 on, .int .i64 ott, .slice A1 oar.length c1, .int .i64 oT, .int .i64 oE]] W fun e w' => ∃ A' c', e = .returned (.agg #[.int .i64 ok, .string (cutM 300 otx), .int .i64 on, .int .i64 ott, .slice A' ((oar.take 10).map cutA).length c', .int .i64 oT, .int .i64 oE]) ∧
      w'.ownsRow W.heap.size 99 2 (.slice A' ((oar.take 10).map cutA).length c') ((oar.take 10).map cutA).length (armVCells ((oar.take 10).map cutA)) ∧ Below W.heap.size W w') := fun W h => opL_any ⟨ok, otx, on, ott, oar, oT, oE⟩ A1 c1 W h HM.out
    have HTK2 : Hid ((ops.take (i + 1)).map cutO = (ops.take i).map cutO ++ [OpV.mk ok (cutM 300 otx) on ott ((oar.take 10).map cutA) oT oE]) := HTK.out
    obtain ⟨os, hos⟩ : ∃ x, cutM 300 otx = x := ⟨_, rfl⟩
    obtain ⟨mar, hmar⟩ : ∃ x, (oar.take 10).map cutA = x := ⟨_, rfl⟩
    obtain ⟨ml, hml⟩ : ∃ x, mar.length = x := ⟨_, rfl⟩
    have HML := hid hml
    rw [hos, hmar] at CO HTK2
    rw [hml] at CO
    have HXS2 : Hid ((xs ++ [(OpV.mk ok os on ott mar oT oE, Value.slice none 0 0)]).map Prod.fst = (ops.take (i + 1)).map cutO) := by rw [Hid, HTK2.out, List.map_append, HXS.out]; rfl
    have HXS2 : Hid (∀ v, (xs ++ [(OpV.mk ok os on ott mar oT oE, v)]).map Prod.fst = (ops.take (i + 1)).map cutO) := fun v => by rw [HTK2.out, List.map_append, HXS.out]; rfl
    obtain ⟨ol, hol⟩ : ∃ l, oar.length = l := ⟨_, rfl⟩
    rw [hol] at e4 CO
    clear hos hmar hml HTK HTK2 hol HM HXS
    have HRA := hid hra
    clear hra
    go_upto_region 6 with fail
    refine wp_region_ord (.val 0 (.val 2 (.val 3 (.val 4 (.two 1 (.op 5 (.op 6 (.op 7 (.op 8 (.val 9 (.op 10 (.nil))))))) 5 (.two 1 (.op 6 (.op 7 (.op 8 (.val 9 (.op 10 (.nil)))))) 6 (.two 1 (.op 7 (.op 8 (.val 9 (.op 10 (.nil))))) 7 (.op 1 (.op 8 (.val 9 (.op 10 (.nil)))))))))))) (by kernel_rfl) (by kernel_rfl) ?_
    obtain ⟨w3, hw3⟩ : ∃ w3, wr.drewN 1 = w3 := ⟨_, rfl⟩
    have HD3 : Hid (Below wr.heap.size wr w3) := by rw [← hw3]; exact drewN_below wr 1
    have HX3 := hid (HX.out.below HD3.out HX.out.lt)
    have HZ3 := hid (HZ.out.below HD3.out HZ.out.lt)
    have HO3 := hid (own_below HO.out HD3.out)
    have HA3 : Hid (∀ x ∈ xs, ArmsOwn gb w3 x.1 x.2) := fun x hx => (HA.out x hx).below HD3.out (Nat.le_refl _)
    have HB3 := hid (HB.out.trans (HD3.out.mono hsz0))
    have HRA3 := hid (HRA.out.below HD3.out)
    have hsz : gb ≤ w3.heap.size := Nat.le_trans hsz0 HD3.out.size
    have d0 := (HD3.out.cell (p := ⟨b1, off1 + i * 7, none⟩) hbl).trans e0
    have d1 := (HD3.out.cell (p := ⟨b1, off1 + i * 7 + 1, none⟩) hbl).trans e1
    have d2 := (HD3.out.cell (p := ⟨b1, off1 + i * 7 + 2, none⟩) hbl).trans e2
    have d3 := (HD3.out.cell (p := ⟨b1, off1 + i * 7 + 3, none⟩) hbl).trans e3
    have d4 := (HD3.out.cell (p := ⟨b1, off1 + i * 7 + 4, none⟩) hbl).trans e4
    have d5 := (HD3.out.cell (p := ⟨b1, off1 + i * 7 + 5, none⟩) hbl).trans e5
    have d6 := (HD3.out.cell (p := ⟨b1, off1 + i * 7 + 6, none⟩) hbl).trans e6
    have hc0 : b1 < w3.heap.size := Nat.lt_of_lt_of_le hbl HD3.out.size
    rw [hw3]
    clear hw3 HD3 HX HZ HO HB HA e0 e1 e2 e3 e4 e5 e6 hbl hsz0 HRA
    have q3 := HX3.out.cell 3
    have ql := HX3.out.lt
    simp only [List.getElem?_toArray, List.getElem?_cons_zero, List.getElem?_cons_succ] at q3
    iterate 4 (refine wpOrd_val rfl ?_; go_big_quiet_step (fail); refine wpQuiet_nil ?_)
    refine wpOrd_two rfl rfl ?_ ?_
    focus
     go_wp2_with fail
     refine wpOrd_op rfl ?_
     go_wp2_with fail
     refine wpOrd_op rfl ?_
     go_wp2_with fail
     refine (CO.out _ HRA3.out).mono ?_
     rintro en w4 ⟨A6, c6, rfl, hown6, hb6⟩
     have hs34 := hb6.size
     have HX4 : Hid (Blk w4 gb 26 #[.string ct, .int .i64 dl, .int .i64 jp, .slice A' i c']) := HX3.out.below hb6 HX3.out.lt
     have HZ4 : Hid (Blk w4 (gb + 1) 26 #[.string ⟨#[]⟩, .int .i64 0, .int .i64 0, .slice none 0 0]) := HZ3.out.below hb6 HZ3.out.lt
     have HO4 : Hid (w4.ownsRow gb 56 7 (.slice A' i c') i (opVCells xs)) := own_below HO3.out hb6
     have HA4 : Hid (∀ x ∈ xs, ArmsOwn gb w4 x.1 x.2) := fun x hx => (HA3.out x hx).below hb6 (Nat.le_refl _)
     have HB4 : Hid (Below gb w w4) := HB3.out.trans (hb6.mono hsz)
     have HM4 : Hid (w4.ownsRow gb 99 2 (.slice A6 ml c6) ml (armVCells mar)) := own_base hown6 hsz
     have hsz4 : gb ≤ w4.heap.size := Nat.le_trans hsz hs34
     have r3 := HX4.out.cell 3
     have rl := HX4.out.lt
     have r3x := (HX4.out.alloc (.cells #[.int .i64 ok, .string os, .int .i64 on, .int .i64 ott, .slice A6 ml c6, .int .i64 oT, .int .i64 oE] 56)).cell 3
     have rlx := (HX4.out.alloc (.cells #[.int .i64 ok, .string os, .int .i64 on, .int .i64 ott, .slice A6 ml c6, .int .i64 oT, .int .i64 oE] 56)).lt
     simp only [List.getElem?_toArray, List.getElem?_cons_zero, List.getElem?_cons_succ] at r3 r3x
     have HEND : Hid (∀ (g5 c5 : Nat) (w5 : World), w5.ownsRow gb 56 7 (.slice (some ⟨g5, 0, none⟩) (i + 1) c5) (i + 1) (opVCells xs ++ [.int .i64 ok, .string os, .int .i64 on, .int .i64 ott, .slice A6 ml c6, .int .i64 oT, .int .i64 oE]) → Keep (fun k => (Value.slice A' i c').ownBlock = some k) w4 w5 →
       Blk w5 gb 26 #[.string ct, .int .i64 dl, .int .i64 jp, .slice A' i c'] ∧ Blk w5 (gb + 1) 26 #[.string ⟨#[]⟩, .int .i64 0, .int .i64 0, .slice none 0 0] ∧ Below gb w w5 ∧ w5.ownsRow gb 56 7 (.slice (some ⟨g5, 0, none⟩) (i + 1) c5) (i + 1) (opVCells (xs ++ [(OpV.mk ok os on ott mar oT oE, .slice A6 ml c6)])) ∧
       (∀ x ∈ xs ++ [(OpV.mk ok os on ott mar oT oE, .slice A6 ml c6)], ArmsOwn gb w5 x.1 x.2) ∧ g5 ≠ gb) := by
      intro g5 c5 w5 hown5 hk5
      have hX5 := hk5.blk HX4.out (fun h => blk_ne HX4.out HO4.out (by decide) h)
      refine ⟨hX5, hk5.blk HZ4.out (fun h => blk_ne HZ4.out HO4.out (by decide) h), HB4.out.trans (hk5.below hsz4 (fun k hk => (HO4.out.lt k hk).1)), by rw [opVCells_append]; exact hown5, ?_, ?_⟩
      ·intro x hx
       rcases List.mem_append.1 hx with hx | hx
       ·exact (HA4.out x hx).keep1 HO4.out hk5 (by decide)
       ·rw [List.mem_singleton] at hx; subst hx
        have : ArmsOwn gb w4 (OpV.mk ok os on ott mar oT oE) (.slice A6 ml c6) := ⟨A6, c6, by show _ = Value.slice A6 mar.length c6; rw [HML.out], by show w4.ownsRow _ _ _ _ mar.length _; rw [HML.out]; exact HM4.out⟩
        exact this.keep1 HO4.out hk5 (by decide)
      ·rintro rfl
       exact absurd rfl (blk_ne hX5 hown5 (by decide))
     clear hown6 hb6 q3 ql d0 d1 d2 d3 d4 d5 d6 hc0
    rotate_left 1
    focus
     go_wp2_with fail
     refine wpOrd_two rfl rfl ?_ ?_
     focus
      go_wp2_with fail
      refine wpOrd_op rfl ?_
      go_wp2_with fail
      refine (CO.out _ HRA3.out).mono ?_
      rintro en w4 ⟨A6, c6, rfl, hown6, hb6⟩
      have hs34 := hb6.size
      have HX4 : Hid (Blk w4 gb 26 #[.string ct, .int .i64 dl, .int .i64 jp, .slice A' i c']) := HX3.out.below hb6 HX3.out.lt
      have HZ4 : Hid (Blk w4 (gb + 1) 26 #[.string ⟨#[]⟩, .int .i64 0, .int .i64 0, .slice none 0 0]) := HZ3.out.below hb6 HZ3.out.lt
      have HO4 : Hid (w4.ownsRow gb 56 7 (.slice A' i c') i (opVCells xs)) := own_below HO3.out hb6
      have HA4 : Hid (∀ x ∈ xs, ArmsOwn gb w4 x.1 x.2) := fun x hx => (HA3.out x hx).below hb6 (Nat.le_refl _)
      have HB4 : Hid (Below gb w w4) := HB3.out.trans (hb6.mono hsz)
      have HM4 : Hid (w4.ownsRow gb 99 2 (.slice A6 ml c6) ml (armVCells mar)) := own_base hown6 hsz
      have hsz4 : gb ≤ w4.heap.size := Nat.le_trans hsz hs34
      have r3 := HX4.out.cell 3
      have rl := HX4.out.lt
      have r3x := (HX4.out.alloc (.cells #[.int .i64 ok, .string os, .int .i64 on, .int .i64 ott, .slice A6 ml c6, .int .i64 oT, .int .i64 oE] 56)).cell 3
      have rlx := (HX4.out.alloc (.cells #[.int .i64 ok, .string os, .int .i64 on, .int .i64 ott, .slice A6 ml c6, .int .i64 oT, .int .i64 oE] 56)).lt
      simp only [List.getElem?_toArray, List.getElem?_cons_zero, List.getElem?_cons_succ] at r3 r3x
      have HEND : Hid (∀ (g5 c5 : Nat) (w5 : World), w5.ownsRow gb 56 7 (.slice (some ⟨g5, 0, none⟩) (i + 1) c5) (i + 1) (opVCells xs ++ [.int .i64 ok, .string os, .int .i64 on, .int .i64 ott, .slice A6 ml c6, .int .i64 oT, .int .i64 oE]) → Keep (fun k => (Value.slice A' i c').ownBlock = some k) w4 w5 →
        Blk w5 gb 26 #[.string ct, .int .i64 dl, .int .i64 jp, .slice A' i c'] ∧ Blk w5 (gb + 1) 26 #[.string ⟨#[]⟩, .int .i64 0, .int .i64 0, .slice none 0 0] ∧ Below gb w w5 ∧ w5.ownsRow gb 56 7 (.slice (some ⟨g5, 0, none⟩) (i + 1) c5) (i + 1) (opVCells (xs ++ [(OpV.mk ok os on ott mar oT oE, .slice A6 ml c6)])) ∧
        (∀ x ∈ xs ++ [(OpV.mk ok os on ott mar oT oE, .slice A6 ml c6)], ArmsOwn gb w5 x.1 x.2) ∧ g5 ≠ gb) := by
       intro g5 c5 w5 hown5 hk5
       have hX5 := hk5.blk HX4.out (fun h => blk_ne HX4.out HO4.out (by decide) h)
       refine ⟨hX5, hk5.blk HZ4.out (fun h => blk_ne HZ4.out HO4.out (by decide) h), HB4.out.trans (hk5.below hsz4 (fun k hk => (HO4.out.lt k hk).1)), by rw [opVCells_append]; exact hown5, ?_, ?_⟩
       ·intro x hx
        rcases List.mem_append.1 hx with hx | hx
        ·exact (HA4.out x hx).keep1 HO4.out hk5 (by decide)
        ·rw [List.mem_singleton] at hx; subst hx
         have : ArmsOwn gb w4 (OpV.mk ok os on ott mar oT oE) (.slice A6 ml c6) := ⟨A6, c6, by show _ = Value.slice A6 mar.length c6; rw [HML.out], by show w4.ownsRow _ _ _ _ mar.length _; rw [HML.out]; exact HM4.out⟩
         exact this.keep1 HO4.out hk5 (by decide)
       ·rintro rfl
        exact absurd rfl (blk_ne hX5 hown5 (by decide))
      clear hown6 hb6 q3 ql d0 d1 d2 d3 d4 d5 d6 hc0
     rotate_left 1
     focus
      go_wp2_with fail
      refine (CO.out _ HRA3.out).mono ?_
      rintro en w4 ⟨A6, c6, rfl, hown6, hb6⟩
      have hs34 := hb6.size
      have HX4 : Hid (Blk w4 gb 26 #[.string ct, .int .i64 dl, .int .i64 jp, .slice A' i c']) := HX3.out.below hb6 HX3.out.lt
      have HZ4 : Hid (Blk w4 (gb + 1) 26 #[.string ⟨#[]⟩, .int .i64 0, .int .i64 0, .slice none 0 0]) := HZ3.out.below hb6 HZ3.out.lt
      have HO4 : Hid (w4.ownsRow gb 56 7 (.slice A' i c') i (opVCells xs)) := own_below HO3.out hb6
      have HA4 : Hid (∀ x ∈ xs, ArmsOwn gb w4 x.1 x.2) := fun x hx => (HA3.out x hx).below hb6 (Nat.le_refl _)
      have HB4 : Hid (Below gb w w4) := HB3.out.trans (hb6.mono hsz)
      have HM4 : Hid (w4.ownsRow gb 99 2 (.slice A6 ml c6) ml (armVCells mar)) := own_base hown6 hsz
      have hsz4 : gb ≤ w4.heap.size := Nat.le_trans hsz hs34
      have r3 := HX4.out.cell 3
      have rl := HX4.out.lt
      have r3x := (HX4.out.alloc (.cells #[.int .i64 ok, .string os, .int .i64 on, .int .i64 ott, .slice A6 ml c6, .int .i64 oT, .int .i64 oE] 56)).cell 3
      have rlx := (HX4.out.alloc (.cells #[.int .i64 ok, .string os, .int .i64 on, .int .i64 ott, .slice A6 ml c6, .int .i64 oT, .int .i64 oE] 56)).lt
      simp only [List.getElem?_toArray, List.getElem?_cons_zero, List.getElem?_cons_succ] at r3 r3x
      have HEND : Hid (∀ (g5 c5 : Nat) (w5 : World), w5.ownsRow gb 56 7 (.slice (some ⟨g5, 0, none⟩) (i + 1) c5) (i + 1) (opVCells xs ++ [.int .i64 ok, .string os, .int .i64 on, .int .i64 ott, .slice A6 ml c6, .int .i64 oT, .int .i64 oE]) → Keep (fun k => (Value.slice A' i c').ownBlock = some k) w4 w5 →
        Blk w5 gb 26 #[.string ct, .int .i64 dl, .int .i64 jp, .slice A' i c'] ∧ Blk w5 (gb + 1) 26 #[.string ⟨#[]⟩, .int .i64 0, .int .i64 0, .slice none 0 0] ∧ Below gb w w5 ∧ w5.ownsRow gb 56 7 (.slice (some ⟨g5, 0, none⟩) (i + 1) c5) (i + 1) (opVCells (xs ++ [(OpV.mk ok os on ott mar oT oE, .slice A6 ml c6)])) ∧
        (∀ x ∈ xs ++ [(OpV.mk ok os on ott mar oT oE, .slice A6 ml c6)], ArmsOwn gb w5 x.1 x.2) ∧ g5 ≠ gb) := by
       intro g5 c5 w5 hown5 hk5
       have hX5 := hk5.blk HX4.out (fun h => blk_ne HX4.out HO4.out (by decide) h)
       refine ⟨hX5, hk5.blk HZ4.out (fun h => blk_ne HZ4.out HO4.out (by decide) h), HB4.out.trans (hk5.below hsz4 (fun k hk => (HO4.out.lt k hk).1)), by rw [opVCells_append]; exact hown5, ?_, ?_⟩
       ·intro x hx
        rcases List.mem_append.1 hx with hx | hx
        ·exact (HA4.out x hx).keep1 HO4.out hk5 (by decide)
        ·rw [List.mem_singleton] at hx; subst hx
         have : ArmsOwn gb w4 (OpV.mk ok os on ott mar oT oE) (.slice A6 ml c6) := ⟨A6, c6, by show _ = Value.slice A6 mar.length c6; rw [HML.out], by show w4.ownsRow _ _ _ _ mar.length _; rw [HML.out]; exact HM4.out⟩
         exact this.keep1 HO4.out hk5 (by decide)
       ·rintro rfl
        exact absurd rfl (blk_ne hX5 hown5 (by decide))
      clear hown6 hb6 q3 ql d0 d1 d2 d3 d4 d5 d6 hc0
      go_wp2_with fail
      refine wpOrd_two rfl rfl ?_ ?_
      focus
       skip
      rotate_left 1
      focus
       skip
    all_goals
     go_wp2_with fail
     refine wpOrd_op rfl ?_
     go_wp2_with fail
     refine wpOrd_op rfl ?_
     go_wp2_with (at_builtin; refine wpList_append1K _ rfl _ _ 24 rfl gb 56 _ 7 80 Tryz.underlying24 Tryz.infoOp rfl (by decide) _ _ _ rfl HO4.out 1 [.int .i64 ok, .string os, .int .i64 on, .int .i64 ott, .slice A6 ml c6, .int .i64 oT, .int .i64 oE] rfl rfl rfl ?_ (by decide) hsz4 ?_)
     ·omega
     intro g5 c5 w5 hown5 hk5 hf5
     obtain ⟨HX5, HZ5, HB5, HO5, HA5, hg5⟩ := HEND.out g5 c5 w5 hown5 hk5
     have q5 := HX5.cell 3
     have qf5 := HX5.frozen 3
     have ql5 := HX5.lt
     have HX5 := hid HX5; have HZ5 := hid HZ5; have HB5 := hid HB5; have HO5 := hid HO5; have HA5 := hid HA5
     clear hown5 hk5 hf5 r3 r3x rl rlx
     go_wp2_with fail
     refine wpOrd_val rfl ?_
     go_big_quiet_step (fail)
     refine wpQuiet_nil ?_
     refine wpOrd_op rfl ?_
     go_wp2_with fail
     refine wpOrd_nil ?_
     go_wp2_with fail
     go_roundw
     case rel => exact ⟨i + 1, c5, some ⟨g5, 0, none⟩, xs ++ [(OpV.mk ok os on ott mar oT oE, .slice A6 ml c6)], by omega, by omega, by go_num, HX5.out.set 3 _, HZ5.out.set_far (by omega), own_kept_set HO5.out ⟨gb, 3, none⟩ _ (by simp [Value.ownBlock, hg5]), HXS2.out _, fun x hx => (HA5.out x hx).set HX5.out (by decide), HB5.out.setCell (Nat.le_refl _) _⟩
     case measure => simp [intOf]; omega
   ·have HE : Hid (R = (ops.take i).map cutO ∧ R.length = i) := by
     have e : R = (ops.take i).map cutO := by rw [← HRR.out, show i = most from by omega]
     exact ⟨e, by rw [e, List.length_map, List.length_take, HN.out]; omega⟩
    obtain ⟨x0, x1, x2, x3⟩ := fact4 HX.out
    have xl := HX.out.lt
    obtain ⟨z0, z1, z2, z3⟩ := fact4 HZ.out
    have f0 := HZ.out.frozen 0; have f1 := HZ.out.frozen 1; have f2 := HZ.out.frozen 2; have f3 := HZ.out.frozen 3
    have zl := HZ.out.lt
    go_wp2_with fail
    have HOO : Hid (OpsOwn gb wr (.slice A' i c') R) := ⟨xs, by rw [HXS.out, HE.out.1], by rw [HE.out.2]; exact HO.out, HA.out⟩
    obtain ⟨wf, hwf⟩ : ∃ W, set4 wr (gb + 1) (.string ct) (.int .i64 dl) (.int .i64 jp) (.slice A' i c') = W := ⟨_, rfl⟩
    have HZF : Blk wf (gb + 1) 26 #[.string ct, .int .i64 dl, .int .i64 jp, .slice A' i c'] := by rw [← hwf]; exact set4_blk HZ.out _ _ _ _
    have HOF : Hid (OpsOwn gb wf (.slice A' i c') R) := by rw [← hwf]; exact set4_ops HOO.out HZ.out _ _ _ _
    have HBF : Hid (Below gb w wf) := by rw [← hwf]; exact set4_below HB.out (Nat.le_succ _) _ _ _ _
    unfold set4 at hwf
    rw [hwf]
    obtain ⟨r0, r1, r2, r3⟩ := fact4 HZF
    have hi' := HE.out.2
    refine bodyPost_ret (v := .agg #[.string ct, .int .i64 dl, .int .i64 jp, .slice A' i c']) (by simp [results, Tryz.results26, go_sem, r0, r1, r2, r3]) rfl ?_
    rw [hi', HGB.out]
    exact ⟨_, _, rfl, HOF.out, HBF.out⟩
  ·have HE : Hid (R = (ops.take i).map cutO ∧ R.length = i) := by
    have e : R = (ops.take i).map cutO := by rw [← HRR.out, List.take_of_length_le (by rw [HN.out]; omega), List.take_of_length_le (by rw [HN.out]; omega)]
    exact ⟨e, by rw [e, List.length_map, List.length_take, HN.out]; omega⟩
   obtain ⟨x0, x1, x2, x3⟩ := fact4 HX.out
   have xl := HX.out.lt
   obtain ⟨z0, z1, z2, z3⟩ := fact4 HZ.out
   have f0 := HZ.out.frozen 0; have f1 := HZ.out.frozen 1; have f2 := HZ.out.frozen 2; have f3 := HZ.out.frozen 3
   have zl := HZ.out.lt
   go_wp2_with fail
   have HOO : Hid (OpsOwn gb wr (.slice A' i c') R) := ⟨xs, by rw [HXS.out, HE.out.1], by rw [HE.out.2]; exact HO.out, HA.out⟩
   obtain ⟨wf, hwf⟩ : ∃ W, set4 wr (gb + 1) (.string ct) (.int .i64 dl) (.int .i64 jp) (.slice A' i c') = W := ⟨_, rfl⟩
   have HZF : Blk wf (gb + 1) 26 #[.string ct, .int .i64 dl, .int .i64 jp, .slice A' i c'] := by rw [← hwf]; exact set4_blk HZ.out _ _ _ _
   have HOF : Hid (OpsOwn gb wf (.slice A' i c') R) := by rw [← hwf]; exact set4_ops HOO.out HZ.out _ _ _ _
   have HBF : Hid (Below gb w wf) := by rw [← hwf]; exact set4_below HB.out (Nat.le_succ _) _ _ _ _
   unfold set4 at hwf
   rw [hwf]
   obtain ⟨r0, r1, r2, r3⟩ := fact4 HZF
   have hi' := HE.out.2
   refine bodyPost_ret (v := .agg #[.string ct, .int .i64 dl, .int .i64 jp, .slice A' i c']) (by simp [results, Tryz.results26, go_sem, r0, r1, r2, r3]) rfl ?_
   rw [hi', HGB.out]
   exact ⟨_, _, rfl, HOF.out, HBF.out⟩
theorem cutM_ok (long : Nat) (s : ByteArray) (h : long ≤ 1000) : (cutM long s).size ≤ 9223372036854775807 := by have := cutM_size long s; omega
theorem cutO_ok (o : OpV) (h : OpOk o) : OpOk (cutO o) := by
 obtain ⟨h0, h1, h2, h3, h4, h5, h6, h7⟩ := h
 refine ⟨h0, cutM_ok _ _ (by omega), h2, h3, ?_, fun m hm => ?_, h6, h7⟩
 ·show ((o.arms.take 10).map cutA).length ≤ _
  rw [List.length_map, List.length_take]; omega
 ·obtain ⟨x, hx, rfl⟩ := List.mem_map.1 hm
  exact ⟨cutM_ok _ _ (by omega), (h5 x (List.mem_of_mem_take hx)).2⟩
theorem fewP_ok (p : ProgV) (most : Nat) (h : ProgOk p) : ProgOk (fewP p most) := by
 obtain ⟨h0, h1, h2, h3, h4⟩ := h
 refine ⟨cutM_ok _ _ (by omega), h1, h2, ?_, fun o ho => ?_⟩
 ·show ((p.ops.take most).map cutO).length ≤ _
  rw [List.length_map, List.length_take]; omega
 ·obtain ⟨x, hx, rfl⟩ := List.mem_map.1 ho
  exact cutO_ok x (h4 x (List.mem_of_mem_take hx))
/-! ### An op laid into a row -/
end Go.Proofs.YtpkkfdmhbbipoaaGreat
