/- Walks: the same patterns, to which nothing was fed (fresh). Plain: several patterns at once. Walks: what is found first, by several patterns (the program's and the reference's); Reset. -/
import Derived.Test.YtpkkfdmhbbipoaaGreatMl
import Derived.Test.YtpkkfdmhbbipoaaGreatMm
import Derived.Test.YtpkkfdmhbbipoaaGreatMn
namespace Go.Proofs.YtpkkfdmhbbipoaaGreat
open Go.RowKit PopT
def freshA (a : ArmS) : ArmS := ⟨a.g, a.l, startW a.l⟩
set_option maxRecDepth 20000 in
set_option maxHeartbeats 8000000 in
theorem fresh_any (base b : Nat) (ar : List ArmS) (fed : Int) (w : World) (h : ArmsAt base w b ar fed) (hln : ∀ a ∈ ar, a.l.length ≤ 60) (hn : ar.length ≤ 8) :
  Calls Tryz.prog 215 #[.pointer (some ⟨b, 0, none⟩)] w fun e w' => e = .returned (.pointer (some ⟨w.heap.size, 0, none⟩)) ∧ ArmsAt w.heap.size w' w.heap.size (ar.map freshA) 0 ∧ Below w.heap.size w w' := by
 have HLN := hid hln
 obtain ⟨n, hnn⟩ : ∃ n, ar.length = n := ⟨_, rfl⟩
 have HN := hid hnn
 obtain ⟨-, ⟨A0, c0, hk0, ho0⟩, ht0⟩ := h
 rw [hnn] at hk0 ho0
 have HT0 := hid ht0
 have HRD := hid (Rd_of_own ho0)
 have q0 : (w.alloc (.cells #[.slice none 0 0, .int .i64 0] 216)).cell? ⟨b, 0, none⟩ = some (.slice A0 n c0) := (hk0.alloc _).cell 0
 have hlt0 : b < (w.alloc (.cells #[.slice none 0 0, .int .i64 0] 216)).heap.size := (hk0.alloc _).lt
 have HA0 : Hid (ArmsAt w.heap.size (w.alloc (.cells #[.slice none 0 0, .int .i64 0] 216)) w.heap.size [] 0) :=
  ⟨Nat.le_refl _, ⟨none, 0, Blk.new w _ _, ⟨rfl, .inl ⟨rfl, rfl⟩⟩⟩, fun a ha => by cases ha⟩
 have HB0 : Hid (Below w.heap.size w (w.alloc (.cells #[.slice none 0 0, .int .i64 0] 216))) := (Below.refl _ _).alloc (Nat.le_refl _) _
 clear hk0 ho0 ht0 hln
 rw [hnn] at hn
 clear hnn
 go_enter Tryz.func215, Tryz.ntmps215
 go_wp2_with fail
 go_loopw [13] (fun iv wr => ∃ (k : Nat), k ≤ n ∧ iv = .int .i64 (k : Int) ∧ ArmsAt w.heap.size wr w.heap.size ((ar.take k).map freshA) 0 ∧ Below w.heap.size w wr) (fun iv _ => n - (intOf iv).toNat)
 case atStart => exact ⟨0, by omega, rfl, HA0.out, HB0.out⟩
 case round =>
  obtain ⟨k, hk, rfl, hat, hb⟩ := hrel
  have HAT := hid hat; have HB := hid hb
  clear hat hb HA0 HB0 q0 hlt0
  by_cases hlt : k < n
  ·have HK : Hid (k < ar.length) := by rw [Hid, HN.out]; exact hlt
   obtain ⟨b1, off1, rfl, hbl, hc⟩ := (HRD.out.below HB.out).at (by rw [armCells_length, HN.out]; omega)
   have d0 : wr.cell? ⟨b1, off1 + k * 2, none⟩ = some (.pointer (some ⟨(ar[k]'HK.out).g, 0, none⟩)) := hc (k * 2) _ (armCells_get ar k HK.out).1
   have d1 : wr.cell? ⟨b1, off1 + k * 2 + 1, none⟩ = some (w64 (ar[k]'HK.out).x) := by have := hc (k * 2 + 1) _ (armCells_get ar k HK.out).2; rwa [← Nat.add_assoc] at this
   have HTK : Hid (TbT wr (ar[k]'HK.out).g (ar[k]'HK.out).l) := by
    have h1 := (HT0.out _ (List.getElem_mem HK.out)).1
    exact h1.keep (HB.out.block _ h1.1.1) HB.out.size
   have HLK := hid (HLN.out _ (List.getElem_mem HK.out))
   have HE : Hid ((ar.take (k + 1)).map freshA = (ar.take k).map freshA ++ [freshA (ar[k]'HK.out)]) := by rw [Hid, List.take_succ_eq_append_getElem HK.out, List.map_append]; rfl
   obtain ⟨⟨g, l, x0⟩, hxa⟩ : ∃ a, ar[k]'HK.out = a := ⟨_, rfl⟩
   rw [hxa] at d0 d1 HTK HLK HE
   simp only at d0 d1 HTK HLK
   have hln : l.length ≤ 60 := HLK.out
   have HAL : Hid (((ar.take k).map freshA).length = k) := by rw [Hid, List.length_map, List.length_take, HN.out]; omega
   obtain ⟨fr, hfr⟩ : ∃ fr, (ar.take k).map freshA = fr := ⟨_, rfl⟩
   rw [hfr] at HAT HE HAL
   clear hxa hc hfr HLK
   go_upto_region 5 with fail
   obtain ⟨w2, hw2⟩ : ∃ w2, wr.alloc (.cells #[.pointer (some ⟨g, 0, none⟩), w64 x0] 222) = w2 := ⟨_, rfl⟩
   have HT : Hid (TbT w2 g l) := by rw [← hw2]; exact HTK.out.keep (Below.heap_alloc wr _ g HTK.out.1.1) (by simp)
   have HAT2 : Hid (ArmsAt w.heap.size w2 w.heap.size fr 0) := by rw [← hw2]; exact HAT.out.below ((Below.refl _ _).alloc (Nat.le_refl _) _)
   have HB2 : Hid (Below w.heap.size w w2) := by rw [← hw2]; exact HB.out.alloc HB.out.size _
   have HM : Hid (Blk w2 wr.heap.size 222 #[.pointer (some ⟨g, 0, none⟩), w64 x0]) := by rw [← hw2]; exact Blk.new wr _ _
   obtain ⟨B, hB⟩ : ∃ B, wr.heap.size = B := ⟨_, rfl⟩
   have hBw : w.heap.size ≤ B := by have := HB.out.size; omega
   rw [hB] at HM
   rw [hw2]
   simp only [hB]
   clear hw2 HTK HAT HB d0 d1 hB
   obtain ⟨hbb, ⟨A2, c2, hk2, ho2⟩, htb⟩ := HAT2.out
   rw [HAL.out] at hk2 ho2
   have HK2 := hid hk2; have HO2 := hid ho2; have HTB := hid htb
   have q0 : w2.cell? ⟨w.heap.size, 0, none⟩ = some (.slice A2 k c2) := hk2.cell 0
   have f0 := hk2.frozen 0
   have hlt2 := hk2.lt
   have HNB : Hid ((Value.slice A2 k c2).ownBlock ≠ some w.heap.size) := blk_ne hk2 ho2 (by decide)
   have HS := hid (fun (n : Nat) => startC_any g l (w2.drewN n) hln (HT.out.1.drewN n))
   clear hbb hk2 ho2 htb HAT2
   refine wp_region_ord (.val 0 (.val 1 (.val 2 (.val 3 (.val 5 (.val 7 (.three 4 (.two 6 (.op 8 (.op 9 (.val 10 (.op 11 (.op 12 (.val 13 (.val 14 (.op 15 (.nil))))))))) 8 (.two 6 (.op 9 (.val 10 (.op 11 (.op 12 (.val 13 (.val 14 (.op 15 (.nil)))))))) 9 (.op 6 (.val 10 (.op 11 (.op 12 (.val 13 (.val 14 (.op 15 (.nil)))))))))) 6 (.two 4 (.op 8 (.op 9 (.val 10 (.op 11 (.op 12 (.val 13 (.val 14 (.op 15 (.nil))))))))) 8 (.two 4 (.op 9 (.val 10 (.op 11 (.op 12 (.val 13 (.val 14 (.op 15 (.nil)))))))) 9 (.val 10 (.two 4 (.op 11 (.op 12 (.val 13 (.val 14 (.op 15 (.nil)))))) 11 (.op 4 (.op 12 (.val 13 (.val 14 (.op 15 (.nil)))))))))) 8 (.three 4 (.two 6 (.op 9 (.val 10 (.op 11 (.op 12 (.val 13 (.val 14 (.op 15 (.nil)))))))) 9 (.op 6 (.val 10 (.op 11 (.op 12 (.val 13 (.val 14 (.op 15 (.nil))))))))) 6 (.two 4 (.op 9 (.val 10 (.op 11 (.op 12 (.val 13 (.val 14 (.op 15 (.nil)))))))) 9 (.val 10 (.two 4 (.op 11 (.op 12 (.val 13 (.val 14 (.op 15 (.nil)))))) 11 (.op 4 (.op 12 (.val 13 (.val 14 (.op 15 (.nil))))))))) 9 (.two 4 (.op 6 (.val 10 (.op 11 (.op 12 (.val 13 (.val 14 (.op 15 (.nil)))))))) 6 (.val 10 (.two 4 (.op 11 (.op 12 (.val 13 (.val 14 (.op 15 (.nil)))))) 11 (.op 4 (.op 12 (.val 13 (.val 14 (.op 15 (.nil))))))))))))))))) (by kernel_rfl) (by kernel_rfl) ?_
   obtain ⟨w3, hw3⟩ : ∃ w3, w2.drewN 1 = w3 := ⟨_, rfl⟩
   have HK3 : Hid (Blk w3 w.heap.size 216 #[.slice A2 k c2, .int .i64 0]) := by rw [← hw3]; exact HK2.out
   have HO3 : Hid (w3.ownsRow w.heap.size 222 2 (.slice A2 k c2) k (armCells fr)) := by rw [← hw3]; exact HO2.out
   have HM3 : Hid (Blk w3 B 222 #[.pointer (some ⟨g, 0, none⟩), w64 x0]) := by rw [← hw3]; exact HM.out
   have HTB3 : Hid (∀ a ∈ fr ++ [freshA ⟨g, l, x0⟩], TbT w3 a.g a.l ∧ 0 ≤ a.g) := by
    rw [← hw3]
    intro a ha
    rcases List.mem_append.1 ha with ha | ha
    ·obtain ⟨h1, h2⟩ := HTB.out a ha
     exact ⟨h1.keep rfl (Nat.le_refl _), h2⟩
    ·rw [List.mem_singleton] at ha; subst ha; exact ⟨HT.out.keep rfl (Nat.le_refl _), Nat.zero_le _⟩
   have HB3 : Hid (Below w.heap.size w w3) := by rw [← hw3]; exact HB2.out.trans ((drewN_below w2 1).mono HB2.out.size)
   have HS3 : Hid (Calls Tryz.prog 193 #[.pointer (some ⟨g, 0, none⟩)] w3 fun e w' => e = .returned (w64 (startW l)) ∧ w3 = w') := by rw [← hw3]; exact HS.out 1
   rw [hw3]
   clear hw3 HK2 HO2 HTB HT HB2 HS q0 f0 hlt2 HM
   obtain ⟨x, hx⟩ : ∃ x, startW l = x := ⟨_, rfl⟩
   rw [hx] at HS3
   have HX := hid hx
   clear hx
   have q0 : w3.cell? ⟨w.heap.size, 0, none⟩ = some (.slice A2 k c2) := HK3.out.cell 0
   have d0 : w3.cell? ⟨B, 0, none⟩ = some (.pointer (some ⟨g, 0, none⟩)) := HM3.out.cell 0
   have hltB := HM3.out.lt
   have hlt3 := HK3.out.lt
   have q0' : (w3.alloc (.cells #[.pointer (some ⟨g, 0, none⟩), w64 x] 222)).cell? ⟨w.heap.size, 0, none⟩ = some (.slice A2 k c2) := (HK3.out.alloc _).cell 0
   have hs3 : w.heap.size ≤ w3.heap.size := by omega
   clear HM3
   iterate 6 (refine wpOrd_val rfl ?_; go_big_quiet_step (fail); refine wpQuiet_nil ?_)
   refine wpOrd_three rfl rfl rfl ?_ ?_ ?_
   focus
    go_wp2_with fail
    refine wpOrd_two rfl rfl ?_ ?_
    focus
     go_wp2_with fail
     refine wpOrd_op rfl ?_
     go_wp2_with fail
     refine wpOrd_op rfl ?_
     go_wp2_with fail
     refine HS3.out.mono ?_
     rintro en w4 ⟨rfl, rfl⟩
     go_wp2_with fail
     refine wpOrd_val rfl ?_
     go_big_quiet_step (fail)
     refine wpQuiet_nil ?_
    rotate_left 1
    focus
     go_wp2_with fail
     refine wpOrd_two rfl rfl ?_ ?_
     focus
      go_wp2_with fail
      refine wpOrd_op rfl ?_
      go_wp2_with fail
      refine HS3.out.mono ?_
      rintro en w4 ⟨rfl, rfl⟩
      go_wp2_with fail
      refine wpOrd_val rfl ?_
      go_big_quiet_step (fail)
      refine wpQuiet_nil ?_
     rotate_left 1
     focus
      go_wp2_with fail
      refine HS3.out.mono ?_
      rintro en w4 ⟨rfl, rfl⟩
      go_wp2_with fail
      refine wpOrd_op rfl ?_
      go_wp2_with fail
      refine wpOrd_val rfl ?_
      go_big_quiet_step (fail)
      refine wpQuiet_nil ?_
   rotate_left 3
   focus
    go_wp2_with fail
    refine wpOrd_two rfl rfl ?_ ?_
    focus
     go_wp2_with fail
     refine wpOrd_op rfl ?_
     go_wp2_with fail
     refine wpOrd_op rfl ?_
     go_wp2_with fail
     refine HS3.out.mono ?_
     rintro en w4 ⟨rfl, rfl⟩
     go_wp2_with fail
     refine wpOrd_val rfl ?_
     go_big_quiet_step (fail)
     refine wpQuiet_nil ?_
    rotate_left 1
    focus
     go_wp2_with fail
     refine wpOrd_two rfl rfl ?_ ?_
     focus
      go_wp2_with fail
      refine wpOrd_op rfl ?_
      go_wp2_with fail
      refine HS3.out.mono ?_
      rintro en w4 ⟨rfl, rfl⟩
      go_wp2_with fail
      refine wpOrd_val rfl ?_
      go_big_quiet_step (fail)
      refine wpQuiet_nil ?_
     rotate_left 1
     focus
      go_wp2_with fail
      refine HS3.out.mono ?_
      rintro en w4 ⟨rfl, rfl⟩
      go_wp2_with fail
      refine wpOrd_val rfl ?_
      go_big_quiet_step (fail)
      refine wpQuiet_nil ?_
      refine wpOrd_two rfl rfl ?_ ?_
      focus
       go_wp2_with fail
      rotate_left 1
      focus
       go_wp2_with fail
   rotate_left 4
   focus
    go_wp2_with fail
    refine wpOrd_three rfl rfl rfl ?_ ?_ ?_
    focus
     go_wp2_with fail
     refine wpOrd_two rfl rfl ?_ ?_
     focus
      go_wp2_with fail
      refine wpOrd_op rfl ?_
      go_wp2_with fail
      refine HS3.out.mono ?_
      rintro en w4 ⟨rfl, rfl⟩
      go_wp2_with fail
      refine wpOrd_val rfl ?_
      go_big_quiet_step (fail)
      refine wpQuiet_nil ?_
     rotate_left 1
     focus
      go_wp2_with fail
      refine HS3.out.mono ?_
      rintro en w4 ⟨rfl, rfl⟩
      go_wp2_with fail
      refine wpOrd_op rfl ?_
      go_wp2_with fail
      refine wpOrd_val rfl ?_
      go_big_quiet_step (fail)
      refine wpQuiet_nil ?_
    rotate_left 2
    focus
     go_wp2_with fail
     refine wpOrd_two rfl rfl ?_ ?_
     focus
      go_wp2_with fail
      refine wpOrd_op rfl ?_
      go_wp2_with fail
      refine HS3.out.mono ?_
      rintro en w4 ⟨rfl, rfl⟩
      go_wp2_with fail
      refine wpOrd_val rfl ?_
      go_big_quiet_step (fail)
      refine wpQuiet_nil ?_
     rotate_left 1
     focus
      go_wp2_with fail
      refine HS3.out.mono ?_
      rintro en w4 ⟨rfl, rfl⟩
      go_wp2_with fail
      refine wpOrd_val rfl ?_
      go_big_quiet_step (fail)
      refine wpQuiet_nil ?_
      refine wpOrd_two rfl rfl ?_ ?_
      focus
       go_wp2_with fail
      rotate_left 1
      focus
       go_wp2_with fail
    rotate_left 3
    focus
     go_wp2_with fail
     refine HS3.out.mono ?_
     rintro en w4 ⟨rfl, rfl⟩
     go_wp2_with fail
     refine wpOrd_two rfl rfl ?_ ?_
     focus
      go_wp2_with fail
      refine wpOrd_op rfl ?_
      go_wp2_with fail
      refine wpOrd_val rfl ?_
      go_big_quiet_step (fail)
      refine wpQuiet_nil ?_
     rotate_left 1
     focus
      go_wp2_with fail
      refine wpOrd_val rfl ?_
      go_big_quiet_step (fail)
      refine wpQuiet_nil ?_
      refine wpOrd_two rfl rfl ?_ ?_
      focus
       go_wp2_with fail
      rotate_left 1
      focus
       go_wp2_with fail
   all_goals
    refine wpOrd_op rfl ?_
    go_wp2_with fail
    refine wpOrd_op rfl ?_
    go_wp2_with (at_builtin; refine wpList_append1K _ rfl _ _ 214 rfl w.heap.size 222 _ 2 16 Tryz.underlying214 Tryz.infoArm rfl (by decide) _ _ _ rfl HO3.out 1 [.pointer (some ⟨g, 0, none⟩), w64 x] rfl rfl rfl ?_ (by decide) hs3 ?_)
    ·omega
    intro g5 c5 w5 hown5 hk5 hf5
    have HK5 := hid (hk5.blk HK3.out HNB.out)
    have hg5 : g5 ≠ w.heap.size := by
     rintro rfl
     rcases hf5 with h | h
     ·exact HNB.out h
     ·omega
    have r0 : w5.cell? ⟨w.heap.size, 0, none⟩ = some (.slice A2 k c2) := HK5.out.cell 0
    have rf := HK5.out.frozen 0
    have hlt5 := HK5.out.lt
    have hs5 := hk5.size
    have HN5 : Hid (ArmsAt w.heap.size (w5.setCell ⟨w.heap.size, 0, none⟩ (.slice (some ⟨g5, 0, none⟩) (k + 1) c5)) w.heap.size ((ar.take (k + 1)).map freshA) 0) := by
     rw [HE.out]
     have hlen : (fr ++ [freshA ⟨g, l, x0⟩]).length = k + 1 := by rw [List.length_append, HAL.out]; rfl
     refine ⟨Nat.le_refl _, ⟨some ⟨g5, 0, none⟩, c5, ?_, ?_⟩, ?_⟩
     ·rw [hlen]; exact HK5.out.set 0 _
     ·rw [hlen, armCells_append]
      have h := own_kept_set hown5 ⟨w.heap.size, 0, none⟩ (.slice (some ⟨g5, 0, none⟩) (k + 1) c5) (by simp [Value.ownBlock, hg5])
      simpa [armCells, ArmS.cells, freshA, HX.out] using h
     ·intro a ha
      obtain ⟨h1, h2⟩ := HTB3.out a ha
      obtain ⟨cs, hcs⟩ := h1.2
      have hne := blk_ne hcs HO3.out (by decide)
      have hnb : a.g ≠ w.heap.size := by
       intro he
       rw [he] at hcs
       have h3 := hcs.symm.trans HK3.out
       injection h3 with h3
       injection h3 with _ h3
       exact absurd h3 (by decide)
      have hw5 : TbT w5 a.g a.l := h1.keep (hk5.block a.g h1.1.1 hne) hk5.size
      exact ⟨hw5.keep (Below.heap_setCell w5 ⟨w.heap.size, 0, none⟩ _ a.g hnb) (by simp), h2⟩
    have HB5 : Hid (Below w.heap.size w (w5.setCell ⟨w.heap.size, 0, none⟩ (.slice (some ⟨g5, 0, none⟩) (k + 1) c5))) := (HB3.out.trans (hk5.below hs3 (fun k hk => (HO3.out.lt k hk).1))).setCell (Nat.le_refl _) _
    clear hown5 hk5 hf5
    go_wp2_with fail
    iterate 2 (refine wpOrd_val rfl ?_; go_big_quiet_step (fail); refine wpQuiet_nil ?_)
    refine wpOrd_op rfl ?_
    go_wp2_with fail
    refine wpOrd_nil ?_
    go_wp2_with fail
    go_roundw
    case rel => exact ⟨k + 1, by omega, by go_num, HN5.out, HB5.out⟩
    case measure => simp [intOf]; omega
  ·have hkn : k = n := by omega
   have HE : Hid (ar.map freshA = (ar.take k).map freshA) := by rw [Hid, List.take_of_length_le (by rw [HN.out]; omega)]
   go_wp2_with fail
   go_ret
   rw [HE.out]
   exact ⟨rfl, HAT.out, HB.out⟩
def dsM (ls : List (List Item)) (w : List UInt8) (n : Nat) : List Bool := ls.map fun l => (endsAll l w).getD n false
def GoodP (l : List Item) : Prop := goodM l = true ∧ matchM l [] = false ∧ l.length ≤ 60
theorem newM_good (ps : List ByteArray) : ∀ l ∈ (newM ps).1, GoodP l := by
 unfold newM
 by_cases h8 : 8 < ps.length
 ·rw [if_pos h8]; intro l hl; cases hl
 ·rw [if_neg h8]
  have key : ∀ (ps : List ByteArray) (i : Nat) (acc : List (List Item)), (∀ l ∈ acc, GoodP l) → ∀ l ∈ (newGo ps i acc).1, GoodP l := by
   intro ps
   induction ps with
   | nil => intro i acc h; exact h
   | cons p ps ih =>
    intro i acc h
    rw [newGo]
    by_cases he : (parseM p).2.2 ≠ 0
    ·rw [if_pos he]; intro l hl; cases hl
    ·rw [if_neg he]
     by_cases hm : matchM (parseM p).1 [] = true
     ·rw [if_pos hm]; intro l hl; cases hl
     ·rw [if_neg hm]
      refine ih _ _ (fun l hl => ?_)
      rcases List.mem_append.1 hl with hl | hl
      ·exact h l hl
      ·rw [List.mem_singleton] at hl; subst hl
       exact ⟨parseM_good' p, by simpa using hm, parseM_len' p⟩
  exact key _ _ _ (fun l hl => by cases hl)
theorem newM_few (ps : List ByteArray) : (newM ps).1.length ≤ 8 := by
 unfold newM
 by_cases h8 : 8 < ps.length
 ·rw [if_pos h8]; simp
 ·rw [if_neg h8]
  have key : ∀ (ps : List ByteArray) (i : Nat) (acc : List (List Item)), (newGo ps i acc).1.length ≤ acc.length + ps.length := by
   intro ps
   induction ps with
   | nil => intro i acc; simp [newGo]
   | cons p ps ih =>
    intro i acc
    rw [newGo_check]
    by_cases he : (checkM p).2.2 ≠ 0
    ·rw [if_pos he]; simp
    ·rw [if_neg he]
     have := ih (i + 1) (acc ++ [(checkM p).1])
     simp at this ⊢; omega
  have := key ps 0 []
  simp at this; omega
def stepsA (bs : List UInt8) (a : ArmS) : ArmS := bs.foldl (fun a c => stepA c.toNat a) a
theorem stepsA_snoc (bs : List UInt8) (c : UInt8) (a : ArmS) : stepsA (bs ++ [c]) a = stepA c.toNat (stepsA bs a) := by unfold stepsA; rw [List.foldl_append]; rfl
theorem stepsA_l (bs : List UInt8) (a : ArmS) : (stepsA bs a).l = a.l ∧ (stepsA bs a).g = a.g := by
 unfold stepsA
 induction bs generalizing a with
 | nil => exact ⟨rfl, rfl⟩
 | cons c bs ih => rw [List.foldl_cons]; exact ih _
theorem steps_state (a : ArmS) (w : List UInt8) (hg : goodM a.l = true) (n : Nat) (hn : n ≤ w.length) : StateAt a.l w n (stepsA (w.take n) (freshA a)).x := by
 induction n with
 | zero => rw [List.take_zero]; exact start_state a.l w
 | succ n ih =>
  have hlt : n < w.length := by omega
  rw [List.take_succ_eq_append_getElem hlt, stepsA_snoc]
  have h := ih (by omega)
  have hl := (stepsA_l (w.take n) (freshA a)).1
  obtain ⟨h1, h2⟩ := good_has a.l hg
  have := seek_state a.l w n _ (by omega) h1 hlt h
  rw [show (stepA (w[n]).toNat (stepsA (w.take n) (freshA a))).x = seekW (stepsA (w.take n) (freshA a)).l (stepsA (w.take n) (freshA a)).x (w[n]).toNat from rfl, hl]
  exact this
theorem steps_done (a : ArmS) (w : List UInt8) (hg : goodM a.l = true) (n : Nat) (hn : n ≤ w.length) : doneA (stepsA (w.take n) (freshA a)) = (endsAll a.l w).getD n false := by
 have hl := (stepsA_l (w.take n) (freshA a)).1
 rw [show doneA (stepsA (w.take n) (freshA a)) = doneW (stepsA (w.take n) (freshA a)).l (stepsA (w.take n) (freshA a)).x from rfl, hl]
 exact done_state a.l w n _ (by have := (good_has a.l hg).2; show a.l.length < 64; omega) hn (steps_state a w hg n hn)
def armsTo (ar : List ArmS) (w : List UInt8) (n : Nat) : List ArmS := ar.map fun a => stepsA (w.take n) (freshA a)
theorem armsTo_zero (ar : List ArmS) (w : List UInt8) : armsTo ar w 0 = ar.map freshA := rfl
theorem armsTo_length (ar : List ArmS) (w : List UInt8) (n : Nat) : (armsTo ar w n).length = ar.length := by simp [armsTo]
theorem armsTo_succ (ar : List ArmS) (w : List UInt8) (n : Nat) (h : n < w.length) : (armsTo ar w n).map (stepA (w[n]).toNat) = armsTo ar w (n + 1) := by
 unfold armsTo
 rw [List.map_map]
 refine List.map_congr_left fun a _ => ?_
 rw [List.take_succ_eq_append_getElem h, stepsA_snoc]; rfl
theorem armsTo_done (ar : List ArmS) (w : List UInt8) (n : Nat) (hn : n ≤ w.length) (hg : ∀ a ∈ ar, goodM a.l = true) : (armsTo ar w n).map doneA = dsM (ar.map ArmS.l) w n := by
 unfold armsTo dsM
 rw [List.map_map, List.map_map]
 refine List.map_congr_left fun a ha => ?_
 exact steps_done a w (hg a ha) n hn
theorem armsTo_fresh (ar : List ArmS) (w u : List UInt8) (n m : Nat) : armsTo (armsTo ar w n) u m = armsTo ar u m := by
 unfold armsTo
 rw [List.map_map]
 refine List.map_congr_left fun a _ => ?_
 have h1 := stepsA_l (w.take n) (freshA a)
 show stepsA (u.take m) (freshA (stepsA (w.take n) (freshA a))) = _
 unfold freshA at h1 ⊢
 rw [h1.1, h1.2]
set_option maxRecDepth 20000 in
set_option maxHeartbeats 800000 in
theorem reset_any (base b : Nat) (ar : List ArmS) (fed : Int) (w : World) (h : ArmsAt base w b ar fed) (hln : ∀ a ∈ ar, a.l.length ≤ 60) (hn : ar.length ≤ 8) (hbw : base ≤ w.heap.size) :
  Calls Tryz.prog 198 #[.pointer (some ⟨b, 0, none⟩)] w fun e w' => e = .returned (.tuple #[]) ∧ ArmsAt base w' b (ar.map freshA) 0 ∧ FB base b w w' := by
 have C0 := hid (fresh_any base b ar fed w h hln hn)
 have HAT := hid h
 obtain ⟨hb0, ⟨A0, c0, hk0, ho0⟩, ht0⟩ := h
 have hlt0 := hk0.lt
 have HB0 := hid hb0
 clear hk0 ho0 ht0 hln hb0
 obtain ⟨n, hnn⟩ : ∃ n, (ar.map freshA).length = n := ⟨_, rfl⟩
 go_enter Tryz.func198, Tryz.ntmps198
 go_wp2_with fail
 refine C0.out.mono ?_
 rintro en w1 ⟨rfl, hat1, hb1⟩
 have HAT1 := hid hat1; have HB1 := hid hb1
 obtain ⟨-, ⟨A1, c1, hk1, ho1⟩, ht1⟩ := hat1
 have HATB := hid (HAT.out.below hb1)
 obtain ⟨-, ⟨A2, c2, hk2, ho2⟩, ht2⟩ := HATB.out
 rw [hnn] at hk1 ho1
 have HK1 := hid hk1; have HO1 := hid ho1; have HT1 := hid ht1; have HK2 := hid hk2
 have q0 : w1.cell? ⟨w.heap.size, 0, none⟩ = some (.slice A1 n c1) := hk1.cell 0
 have q1 : w1.cell? ⟨w.heap.size, 1, none⟩ = some (.int .i64 0) := hk1.cell 1
 have r0 := hk2.cell 0
 have r1 := hk2.cell 1
 have rf0 := hk2.frozen 0
 have rf1 := hk2.frozen 1
 have hl1 := hk1.lt
 have hl2 := hk2.lt
 have HNE : Hid (b ≠ w.heap.size) := by rw [Hid]; omega
 clear hk1 ho1 ht1 hk2 ho2 ht2 hb1 C0 hlt0
 go_wp2_with fail
 first | (refine bodyPost_ret (results_none rfl _ _ _) rfl ?_) | go_end0
 have hne : (Value.slice A1 n c1).ownBlock ≠ some b := blk_ne HK2.out HO1.out (by decide)
 have hB : FB base b w ((w1.setCell ⟨b, 0, none⟩ (Value.slice A1 n c1)).setCell ⟨b, 1, none⟩ (Value.int IntKind.i64 0)) := (((FB.refl base b w HAT.out.blkLt).trans HB1.out hbw).set0 HB0.out ⟨_, _, _, HK2.out, .inl rfl⟩ (HK2.out.cell 0) (fun k hk => (HO1.out.lt k hk).1)).set1 HB0.out ⟨_, _, _, HK2.out.set 0 _, .inl rfl⟩
 refine ⟨rfl, ⟨HB0.out, ⟨A1, c1, ?_, ?_⟩, fun a ha => ⟨?_, Nat.zero_le _⟩⟩, hB⟩
 ·rw [hnn]; exact (HK2.out.set 0 _).set 1 _
 ·rw [hnn]
  exact own_base (own_kept_set (own_kept_set HO1.out ⟨b, 0, none⟩ _ hne) ⟨b, 1, none⟩ _ hne) hbw
 ·have h1 := (HT1.out a ha).1
  have h2 := TbT_type_ne h1 HK2.out (by decide)
  have h3 := h1.keep (Below.heap_setCell w1 ⟨b, 0, none⟩ (Value.slice A1 n c1) a.g h2) (by simp)
  exact h3.keep (Below.heap_setCell _ ⟨b, 1, none⟩ (Value.int IntKind.i64 0) a.g h2) (by simp)
end Go.Proofs.YtpkkfdmhbbipoaaGreat
