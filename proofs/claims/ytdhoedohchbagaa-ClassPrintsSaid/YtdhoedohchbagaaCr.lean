/- Walks: class.reader's is. -/
import Derived.Test.YtdhoedohchbagaaCq
namespace Go.Proofs.Ytdhoedohchbagaa
open Go.RowKit

def isM (s : ByteArray) (i c : Nat) : Bool := decide (i < s.size) && (s.data.toList.getD i 0).toNat == c

set_option maxRecDepth 20000 in
set_option maxHeartbeats 400000 in
theorem is_any (s : ByteArray) (i c b : Nat) (e : Value) (w : World) (h : Blk w b 126 #[.string s, .int .i64 (i : Int), e]) :
    Calls Try.prog 108 #[.pointer (some ⟨b, 0, none⟩), .int .u8 (c : Int)] w fun x w' => ∃ q, x = .returned (.bool (isM s i c)) ∧ w' = w.drewN q := by
  have q0 : w.cell? ⟨b, 0, none⟩ = some (.string s) := h.cell 0
  have q1 : w.cell? ⟨b, 1, none⟩ = some (.int .i64 (i : Int)) := h.cell 1
  clear h
  by_cases hi : i < s.size
  · have HR : Hid (isM s i c = (((s[i]).toNat : Int) == (c : Int))) := by
      rw [Hid, isM, decide_eq_true hi, Bool.true_and, List.getD, List.getElem?_eq_getElem (by simpa using hi)]
      rw [Bool.eq_iff_iff]; simp
      exact Int.ofNat_inj.symm
    go_enter Try.func108, Try.ntmps108
    go_wp2_with fail
    go_quiet (fail)
    go_wp2_with fail
    go_ret
    exact ⟨_, by rw [HR.out]; rfl, rfl⟩
  · have HR : Hid (isM s i c = false) := by rw [Hid, isM, decide_eq_false hi]; rfl
    go_enter Try.func108, Try.ntmps108
    go_wp2_with fail
    go_quiet (fail)
    go_wp2_with fail
    go_ret
    exact ⟨_, by rw [HR.out]; rfl, rfl⟩
end Go.Proofs.Ytdhoedohchbagaa
