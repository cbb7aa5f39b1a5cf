/- Walks: class.sign beside protected blocks. -/
import Derived.Test.YtdhoedohchbagaaCn
namespace Go.Proofs.Ytdhoedohchbagaa
open Go.RowKit

set_option maxRecDepth 20000 in
set_option maxHeartbeats 800000 in
theorem signN (N : Nat → Prop) (B b : Nat) (l : List Nat) (c : Nat) (w : World) (h : BldN N B b (u8Cells l) w) (hlen : l.length ≤ 100000000) :
    Calls Try.prog 113 #[.pointer (some ⟨b, 0, none⟩), .int .u8 (c : Int)] w fun e w' => e = .returned (.tuple #[]) ∧ BldN N B b (u8Cells (l ++ signM c)) w' ∧ Keep (fun k => ¬ N k) w w' ∧ Below B w w' := by
  have H := hid h
  clear h
  by_cases h0 : c = 37
  · have HS : Hid (signM c = [37, c]) := by rw [Hid, signM, if_pos (by omega)]
    have e0 : ((c : Int) == 37) = true := by simp; omega
    clear h0
    have HW1 := hid (writeByteN N B b (u8Cells l) 37 w H.out (by rw [u8Cells_length]; omega))
    go_enter Try.func113, Try.ntmps113
    go_wp2_with fail
    refine HW1.out.mono ?_
    rintro e w1 ⟨rfl, hB1, hk1, hb1⟩
    have HW2 := hid (writeByteN N B b (u8Cells l ++ [.int .u8 37]) (c : Int) w1 hB1 (by rw [List.length_append, u8Cells_length]; simp; omega))
    have HB1 := hid hb1; have HK1 := hid hk1
    clear hB1 hb1 hk1 HW1
    go_wp2_with fail
    refine HW2.out.mono ?_
    rintro e w2 ⟨rfl, hB2, hk2, hb2⟩
    have HR : Hid (BldN N B b (u8Cells (l ++ signM c)) w2) := by
      rw [Hid, HS.out, u8Cells_append]; simpa [u8Cells] using hB2
    have HB2 := hid (HB1.out.trans hb2); have HK2 := hid (HK1.out.trans hk2 (fun _ => .inl))
    clear hB2 hb2 hk2 HW2
    go_wp2_with fail
    go_end0
    exact ⟨rfl, HR.out, HK2.out, HB2.out⟩
  · skip
    by_cases h1 : c = 93
    · have HS : Hid (signM c = [37, c]) := by rw [Hid, signM, if_pos (by omega)]
      have e0 : ((c : Int) == 37) = false := by simp; omega
      have e1 : ((c : Int) == 93) = true := by simp; omega
      clear h1
      have HW1 := hid (writeByteN N B b (u8Cells l) 37 w H.out (by rw [u8Cells_length]; omega))
      go_enter Try.func113, Try.ntmps113
      go_wp2_with fail
      refine HW1.out.mono ?_
      rintro e w1 ⟨rfl, hB1, hk1, hb1⟩
      have HW2 := hid (writeByteN N B b (u8Cells l ++ [.int .u8 37]) (c : Int) w1 hB1 (by rw [List.length_append, u8Cells_length]; simp; omega))
      have HB1 := hid hb1; have HK1 := hid hk1
      clear hB1 hb1 hk1 HW1
      go_wp2_with fail
      refine HW2.out.mono ?_
      rintro e w2 ⟨rfl, hB2, hk2, hb2⟩
      have HR : Hid (BldN N B b (u8Cells (l ++ signM c)) w2) := by
        rw [Hid, HS.out, u8Cells_append]; simpa [u8Cells] using hB2
      have HB2 := hid (HB1.out.trans hb2); have HK2 := hid (HK1.out.trans hk2 (fun _ => .inl))
      clear hB2 hb2 hk2 HW2
      go_wp2_with fail
      go_end0
      exact ⟨rfl, HR.out, HK2.out, HB2.out⟩
    · skip
      by_cases h2 : c = 45
      · have HS : Hid (signM c = [37, c]) := by rw [Hid, signM, if_pos (by omega)]
        have e0 : ((c : Int) == 37) = false := by simp; omega
        have e1 : ((c : Int) == 93) = false := by simp; omega
        have e2 : ((c : Int) == 45) = true := by simp; omega
        clear h2
        have HW1 := hid (writeByteN N B b (u8Cells l) 37 w H.out (by rw [u8Cells_length]; omega))
        go_enter Try.func113, Try.ntmps113
        go_wp2_with fail
        refine HW1.out.mono ?_
        rintro e w1 ⟨rfl, hB1, hk1, hb1⟩
        have HW2 := hid (writeByteN N B b (u8Cells l ++ [.int .u8 37]) (c : Int) w1 hB1 (by rw [List.length_append, u8Cells_length]; simp; omega))
        have HB1 := hid hb1; have HK1 := hid hk1
        clear hB1 hb1 hk1 HW1
        go_wp2_with fail
        refine HW2.out.mono ?_
        rintro e w2 ⟨rfl, hB2, hk2, hb2⟩
        have HR : Hid (BldN N B b (u8Cells (l ++ signM c)) w2) := by
          rw [Hid, HS.out, u8Cells_append]; simpa [u8Cells] using hB2
        have HB2 := hid (HB1.out.trans hb2); have HK2 := hid (HK1.out.trans hk2 (fun _ => .inl))
        clear hB2 hb2 hk2 HW2
        go_wp2_with fail
        go_end0
        exact ⟨rfl, HR.out, HK2.out, HB2.out⟩
      · skip
        by_cases h3 : c = 94
        · have HS : Hid (signM c = [37, c]) := by rw [Hid, signM, if_pos (by omega)]
          have e0 : ((c : Int) == 37) = false := by simp; omega
          have e1 : ((c : Int) == 93) = false := by simp; omega
          have e2 : ((c : Int) == 45) = false := by simp; omega
          have e3 : ((c : Int) == 94) = true := by simp; omega
          clear h3
          have HW1 := hid (writeByteN N B b (u8Cells l) 37 w H.out (by rw [u8Cells_length]; omega))
          go_enter Try.func113, Try.ntmps113
          go_wp2_with fail
          refine HW1.out.mono ?_
          rintro e w1 ⟨rfl, hB1, hk1, hb1⟩
          have HW2 := hid (writeByteN N B b (u8Cells l ++ [.int .u8 37]) (c : Int) w1 hB1 (by rw [List.length_append, u8Cells_length]; simp; omega))
          have HB1 := hid hb1; have HK1 := hid hk1
          clear hB1 hb1 hk1 HW1
          go_wp2_with fail
          refine HW2.out.mono ?_
          rintro e w2 ⟨rfl, hB2, hk2, hb2⟩
          have HR : Hid (BldN N B b (u8Cells (l ++ signM c)) w2) := by
            rw [Hid, HS.out, u8Cells_append]; simpa [u8Cells] using hB2
          have HB2 := hid (HB1.out.trans hb2); have HK2 := hid (HK1.out.trans hk2 (fun _ => .inl))
          clear hB2 hb2 hk2 HW2
          go_wp2_with fail
          go_end0
          exact ⟨rfl, HR.out, HK2.out, HB2.out⟩
        · skip
          have HS : Hid (signM c = [c]) := by rw [Hid, signM, if_neg (by omega)]
          have e0 : ((c : Int) == 37) = false := by simp; omega
          have e1 : ((c : Int) == 93) = false := by simp; omega
          have e2 : ((c : Int) == 45) = false := by simp; omega
          have e3 : ((c : Int) == 94) = false := by simp; omega
          clear h0 h1 h2 h3
          have HW1 := hid (writeByteN N B b (u8Cells l) (c : Int) w H.out (by rw [u8Cells_length]; omega))
          go_enter Try.func113, Try.ntmps113
          go_wp2_with fail
          refine HW1.out.mono ?_
          rintro e w1 ⟨rfl, hB1, hk1, hb1⟩
          have HR : Hid (BldN N B b (u8Cells (l ++ signM c)) w1) := by
            rw [Hid, HS.out, u8Cells_append]; simpa [u8Cells] using hB1
          have HB1 := hid hb1; have HK1 := hid hk1
          clear hB1 hb1 hk1 HW1
          go_wp2_with fail
          go_end0
          exact ⟨rfl, HR.out, HK1.out, HB1.out⟩
end Go.Proofs.Ytdhoedohchbagaa
