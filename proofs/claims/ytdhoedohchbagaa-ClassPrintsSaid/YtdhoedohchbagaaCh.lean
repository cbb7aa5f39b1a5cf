/- Walks: class.sign. -/
import Derived.Test.YtdhoedohchbagaaCg
namespace Go.Proofs.Ytdhoedohchbagaa
open Go.RowKit

/-- A byte's sign. -/
def signM (c : Nat) : List Nat := if c = 37 ∨ c = 93 ∨ c = 45 ∨ c = 94 then [37, c] else [c]
def u8Cells (l : List Nat) : List Value := l.map fun c : Nat => Value.int .u8 (c : Int)
theorem u8Cells_append (a b : List Nat) : u8Cells (a ++ b) = u8Cells a ++ u8Cells b := by simp [u8Cells]
theorem u8Cells_length (a : List Nat) : (u8Cells a).length = a.length := by simp [u8Cells]
theorem signM_le (c : Nat) : (signM c).length ≤ 2 := by unfold signM; split <;> simp

set_option maxRecDepth 20000 in
set_option maxHeartbeats 800000 in
theorem signC_any (B b : Nat) (l : List Nat) (c : Nat) (w : World) (h : Lib.IsBuilder 130 5 B b (u8Cells l) w) (hlen : l.length ≤ 100000000) :
    Calls Try.prog 113 #[.pointer (some ⟨b, 0, none⟩), .int .u8 (c : Int)] w fun e w' => e = .returned (.tuple #[]) ∧ Lib.BuilderAt 130 5 B b (.pointer (some ⟨b, 0, none⟩)) (u8Cells (l ++ signM c)) w' ∧ Below B w w' := by
  have H := hid h
  clear h
  by_cases h0 : c = 37
  · have HS : Hid (signM c = [37, c]) := by rw [Hid, signM, if_pos (by omega)]
    have e0 : ((c : Int) == 37) = true := by simp; omega
    clear h0
    have HW1 := hid (writeByte_any B b (u8Cells l) 37 w H.out (by rw [u8Cells_length]; omega))
    go_enter Try.func113, Try.ntmps113
    go_wp2_with fail
    refine HW1.out.mono ?_
    rintro e w1 ⟨rfl, hB1, hb1⟩
    have HW2 := hid (writeByte_any B b (u8Cells l ++ [.int .u8 37]) (c : Int) w1 (.inr hB1) (by rw [List.length_append, u8Cells_length]; simp; omega))
    have HB1 := hid hb1
    clear hB1 hb1 HW1
    go_wp2_with fail
    refine HW2.out.mono ?_
    rintro e w2 ⟨rfl, hB2, hb2⟩
    have HR : Hid (Lib.BuilderAt 130 5 B b (.pointer (some ⟨b, 0, none⟩)) (u8Cells (l ++ signM c)) w2) := by
      rw [Hid, HS.out, u8Cells_append]; simpa [u8Cells] using hB2
    have HB2 := hid (HB1.out.trans hb2)
    clear hB2 hb2 HW2
    go_wp2_with fail
    go_end0
    exact ⟨rfl, HR.out, HB2.out⟩
  · skip
    by_cases h1 : c = 93
    · have HS : Hid (signM c = [37, c]) := by rw [Hid, signM, if_pos (by omega)]
      have e0 : ((c : Int) == 37) = false := by simp; omega
      have e1 : ((c : Int) == 93) = true := by simp; omega
      clear h1
      have HW1 := hid (writeByte_any B b (u8Cells l) 37 w H.out (by rw [u8Cells_length]; omega))
      go_enter Try.func113, Try.ntmps113
      go_wp2_with fail
      refine HW1.out.mono ?_
      rintro e w1 ⟨rfl, hB1, hb1⟩
      have HW2 := hid (writeByte_any B b (u8Cells l ++ [.int .u8 37]) (c : Int) w1 (.inr hB1) (by rw [List.length_append, u8Cells_length]; simp; omega))
      have HB1 := hid hb1
      clear hB1 hb1 HW1
      go_wp2_with fail
      refine HW2.out.mono ?_
      rintro e w2 ⟨rfl, hB2, hb2⟩
      have HR : Hid (Lib.BuilderAt 130 5 B b (.pointer (some ⟨b, 0, none⟩)) (u8Cells (l ++ signM c)) w2) := by
        rw [Hid, HS.out, u8Cells_append]; simpa [u8Cells] using hB2
      have HB2 := hid (HB1.out.trans hb2)
      clear hB2 hb2 HW2
      go_wp2_with fail
      go_end0
      exact ⟨rfl, HR.out, HB2.out⟩
    · skip
      by_cases h2 : c = 45
      · have HS : Hid (signM c = [37, c]) := by rw [Hid, signM, if_pos (by omega)]
        have e0 : ((c : Int) == 37) = false := by simp; omega
        have e1 : ((c : Int) == 93) = false := by simp; omega
        have e2 : ((c : Int) == 45) = true := by simp; omega
        clear h2
        have HW1 := hid (writeByte_any B b (u8Cells l) 37 w H.out (by rw [u8Cells_length]; omega))
        go_enter Try.func113, Try.ntmps113
        go_wp2_with fail
        refine HW1.out.mono ?_
        rintro e w1 ⟨rfl, hB1, hb1⟩
        have HW2 := hid (writeByte_any B b (u8Cells l ++ [.int .u8 37]) (c : Int) w1 (.inr hB1) (by rw [List.length_append, u8Cells_length]; simp; omega))
        have HB1 := hid hb1
        clear hB1 hb1 HW1
        go_wp2_with fail
        refine HW2.out.mono ?_
        rintro e w2 ⟨rfl, hB2, hb2⟩
        have HR : Hid (Lib.BuilderAt 130 5 B b (.pointer (some ⟨b, 0, none⟩)) (u8Cells (l ++ signM c)) w2) := by
          rw [Hid, HS.out, u8Cells_append]; simpa [u8Cells] using hB2
        have HB2 := hid (HB1.out.trans hb2)
        clear hB2 hb2 HW2
        go_wp2_with fail
        go_end0
        exact ⟨rfl, HR.out, HB2.out⟩
      · skip
        by_cases h3 : c = 94
        · have HS : Hid (signM c = [37, c]) := by rw [Hid, signM, if_pos (by omega)]
          have e0 : ((c : Int) == 37) = false := by simp; omega
          have e1 : ((c : Int) == 93) = false := by simp; omega
          have e2 : ((c : Int) == 45) = false := by simp; omega
          have e3 : ((c : Int) == 94) = true := by simp; omega
          clear h3
          have HW1 := hid (writeByte_any B b (u8Cells l) 37 w H.out (by rw [u8Cells_length]; omega))
          go_enter Try.func113, Try.ntmps113
          go_wp2_with fail
          refine HW1.out.mono ?_
          rintro e w1 ⟨rfl, hB1, hb1⟩
          have HW2 := hid (writeByte_any B b (u8Cells l ++ [.int .u8 37]) (c : Int) w1 (.inr hB1) (by rw [List.length_append, u8Cells_length]; simp; omega))
          have HB1 := hid hb1
          clear hB1 hb1 HW1
          go_wp2_with fail
          refine HW2.out.mono ?_
          rintro e w2 ⟨rfl, hB2, hb2⟩
          have HR : Hid (Lib.BuilderAt 130 5 B b (.pointer (some ⟨b, 0, none⟩)) (u8Cells (l ++ signM c)) w2) := by
            rw [Hid, HS.out, u8Cells_append]; simpa [u8Cells] using hB2
          have HB2 := hid (HB1.out.trans hb2)
          clear hB2 hb2 HW2
          go_wp2_with fail
          go_end0
          exact ⟨rfl, HR.out, HB2.out⟩
        · skip
          have HS : Hid (signM c = [c]) := by rw [Hid, signM, if_neg (by omega)]
          have e0 : ((c : Int) == 37) = false := by simp; omega
          have e1 : ((c : Int) == 93) = false := by simp; omega
          have e2 : ((c : Int) == 45) = false := by simp; omega
          have e3 : ((c : Int) == 94) = false := by simp; omega
          clear h0 h1 h2 h3
          have HW1 := hid (writeByte_any B b (u8Cells l) (c : Int) w H.out (by rw [u8Cells_length]; omega))
          go_enter Try.func113, Try.ntmps113
          go_wp2_with fail
          refine HW1.out.mono ?_
          rintro e w1 ⟨rfl, hB1, hb1⟩
          have HR : Hid (Lib.BuilderAt 130 5 B b (.pointer (some ⟨b, 0, none⟩)) (u8Cells (l ++ signM c)) w1) := by
            rw [Hid, HS.out, u8Cells_append]; simpa [u8Cells] using hB1
          have HB1 := hid hb1
          clear hB1 hb1 HW1
          go_wp2_with fail
          go_end0
          exact ⟨rfl, HR.out, HB1.out⟩
end Go.Proofs.Ytdhoedohchbagaa
