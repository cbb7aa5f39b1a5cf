/- Walks: class.list, class.Bytes. -/
import Derived.Test.YtdhoedohchbagaaCf
import Derived.Test.YtdhoedohchbagaaCh
import Derived.Test.YtdhoedohchbagaaWb
namespace Go.Proofs.Ytdhoedohchbagaa
open Go.RowKit PopT

set_option maxRecDepth 20000 in
set_option maxHeartbeats 1000000 in
theorem list_any (y : BSet) (w : World) :
    Calls Try.prog 89 #[y.val] w fun e w' => ∃ A c, e = .returned (.slice A (bytesM y).length c) ∧ w'.ownsRow w.heap.size 5 1 (.slice A (bytesM y).length c) (bytesM y).length (byteCells (bytesM y)) ∧ Below w.heap.size w w' := by
  have HHAS := hid (fun b hb W => has_any y b hb W)
  unfold BSet.val at HHAS ⊢
  go_enter Try.func89, Try.ntmps89
  go_wp2_with fail
  have HO0 := hid (World.ownsRow_made (base := w.heap.size) (e := 5) (size := 1) (w.alloc (.cells #[w64 y.w0, w64 y.w1, w64 y.w2, w64 y.w3] 51)) #[] 0 (by simp) (by simp [maxLen]) (by simp))
  go_loopw [3, 5] (fun v i wr => ∃ (k : Nat) (A' : Option Addr) (c' : Nat), k ≤ 256 ∧ i = .int .i64 k ∧ v = .slice A' (bytesTo y k).length c' ∧
      wr.ownsRow (w.heap.size + 1) 5 1 (.slice A' (bytesTo y k).length c') (bytesTo y k).length (byteCells (bytesTo y k)) ∧
      Blk wr w.heap.size 51 #[w64 y.w0, w64 y.w1, w64 y.w2, w64 y.w3] ∧ Below w.heap.size w wr ∧ w.heap.size + 1 ≤ wr.heap.size) (fun _ i _ => 256 - (intOf i).toNat)
  case atStart => exact ⟨0, none, 0, by omega, rfl, rfl, World.ownsRow_nil _ _ _ _, Blk.new w _ _, (Below.refl _ _).alloc (Nat.le_refl _) _, by simp⟩
  case round =>
    obtain ⟨k, A', c', hk, rfl, rfl, hown, hbk, hb, hsz⟩ := hrel
    have hlen := bytesTo_length y k
    by_cases hlt : k < 256
    · have HBK := hid hbk
      obtain ⟨c0, c1, c2, c3, -, -, -, -⟩ := blk4 hbk
      have HBS := hid (bytesTo_succ y k)
      have HH := hid (fun W => HHAS.out k hlt W)
      have HO := hid hown
      have HB := hid hb
      clear hbk hown hb
      go_wp2_with fail
      refine (HH.out _).mono ?_
      rintro e w2 ⟨rfl, hb2⟩
      have HBK2 := hid (HBK.out.below hb2 HBK.out.lt)
      have hown2 := own_below HO.out hb2
      have HB2 := HB.out.trans (hb2.mono HB.out.size)
      have hsz2 := Nat.le_trans hsz hb2.size
      clear hb2 HBK HO HB HH c0 c1 c2 c3
      cases hx : y.has k
      · rw [hx] at HBS
        have HE : Hid (bytesTo y (k + 1) = bytesTo y k) := by rw [Hid, HBS.out]; simp
        clear hx HBS
        have HO := hid hown2
        have HB := hid HB2
        clear hown2 HB2
        go_wp2_with fail
        go_roundw
        case rel => exact ⟨k + 1, A', c', by omega, by go_num, by rw [HE.out], by rw [HE.out]; exact HO.out, HBK2.out, HB.out, hsz2⟩
        case measure => simp [intOf]; omega
      · rw [hx] at HBS
        have HE : Hid (bytesTo y (k + 1) = bytesTo y k ++ [UInt8.ofNat k]) := by rw [Hid, HBS.out]; simp
        clear hx HBS
        go_wp2_with (at_builtin; refine wpList_append1 _ rfl _ _ 69 rfl (w.heap.size + 1) 5 _ 1 1 Try.underlying69 Try.infoU8b rfl (by decide) _ _ _ rfl hown2 1 [.int .u8 (k : Int)] rfl rfl rfl ?_ (by decide) hsz2 ?_)
        · omega
        intro A2 d2 w3 hown3 hg3
        have hb3 := below_grown HB2 hown2 hg3 (by omega) (by omega)
        have hsz3 := Nat.le_trans hsz2 hg3.size
        have HB3 := hid hb3
        have HO := hid hown3
        have HBK3 := hid (HBK2.out.below (below_grown (Below.refl (w.heap.size + 1) w2) hown2 hg3 (by omega) hsz2) (by omega))
        clear hown2 hown3 HB2 hg3 hb3
        go_wp2_with fail
        go_roundw
        case rel => exact ⟨k + 1, A2, d2, by omega, by go_num, by rw [HE.out]; simp, by rw [HE.out]; simpa [byteCells, Nat.mod_eq_of_lt hlt] using HO.out, HBK3.out, HB3.out, hsz3⟩
        case measure => simp [intOf]; omega
    · obtain rfl : k = 256 := by omega
      have HO := hid (own_base (B := w.heap.size) hown (by omega))
      have HB := hid hb
      clear hown hb hbk
      go_wp2_with fail
      go_ret
      exact ⟨_, _, rfl, HO.out, HB.out⟩
end Go.Proofs.Ytdhoedohchbagaa
