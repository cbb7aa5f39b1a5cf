/- Walks: class.reader's stop. -/
import Derived.Test.YtdhoedohchbagaaCr
namespace Go.Proofs.Ytdhoedohchbagaa
open Go.RowKit

def stopAt (s : ByteArray) (i : Nat) : Nat := if i < s.size then i else s.size
def stopE (s : ByteArray) (i : Nat) : Nat := if i < s.size then 2 else 3

set_option maxRecDepth 20000 in
set_option maxHeartbeats 400000 in
theorem stop_any (s : ByteArray) (i b : Nat) (e : Value) (w : World) (h : Blk w b 126 #[.string s, .int .i64 (i : Int), e]) :
    Calls Try.prog 109 #[.pointer (some ⟨b, 0, none⟩)] w fun x w' => x = .returned (.tuple #[]) ∧ Blk w' b 126 #[.string s, .int .i64 (stopAt s i : Nat), .int .i64 (stopE s i : Nat)] ∧ Keep (fun k => k = b) w w' := by
  have f2 := h.frozen 2
  have h2 := h.set 2 (.int .i64 2)
  have HB2 : Hid (Blk (w.setCell ⟨b, 2, none⟩ (.int .i64 2)) b 126 #[.string s, .int .i64 (i : Int), .int .i64 2]) := h2
  have c2 : w.cell? ⟨b, 2, none⟩ = some e := h.cell 2
  have q0 : (w.setCell ⟨b, 2, none⟩ (.int .i64 2)).cell? ⟨b, 0, none⟩ = some (.string s) := HB2.out.cell 0
  have q1 : (w.setCell ⟨b, 2, none⟩ (.int .i64 2)).cell? ⟨b, 1, none⟩ = some (.int .i64 (i : Int)) := HB2.out.cell 1
  have hlt := h.lt
  clear h h2
  go_enter Try.func109, Try.ntmps109
  go_wp2_with fail
  have HK1 : Hid (Keep (fun k => k = b) w (w.setCell ⟨b, 2, none⟩ (.int .i64 2))) := Keep.setCell _ w _ _ rfl
  obtain ⟨w1, hw1⟩ : ∃ w1, w.setCell ⟨b, 2, none⟩ (.int .i64 2) = w1 := ⟨_, rfl⟩
  rw [hw1] at HB2 q0 q1 HK1 ⊢
  clear hw1
  have g1 := HB2.out.frozen 1
  have g2 := HB2.out.frozen 2
  have r2 : w1.cell? ⟨b, 2, none⟩ = some (.int .i64 2) := HB2.out.cell 2
  have hlt1 := HB2.out.lt
  by_cases hi : i < s.size
  · have H1 : Hid (stopAt s i = i) := if_pos hi
    have H2 : Hid (stopE s i = 2) := if_pos hi
    go_quiet (fail)
    go_wp2_with fail
    go_end0
    exact ⟨rfl, by rw [H1.out, H2.out]; exact HB2.out, HK1.out.trans (Keep.drewN _ w1 _) (fun _ => .inl)⟩
  · have H1 : Hid (stopAt s i = s.size) := if_neg hi
    have H2 : Hid (stopE s i = 3) := if_neg hi
    have HB3 := hid (fun Q => (show Blk (w1.drewN Q) b 126 _ from HB2.out).set 1 (.int .i64 (s.size : Int)) |>.set 2 (.int .i64 3))
    go_quiet (fail)
    go_wp2_with fail
    go_end0
    exact ⟨rfl, by rw [H1.out, H2.out]; exact HB3.out _, ((HK1.out.trans (Keep.drewN _ w1 _) (fun _ => .inl)).trans (Keep.setCell (fun k => k = b) _ ⟨b, 1, none⟩ _ rfl) (fun _ => .inl)).trans (Keep.setCell (fun k => k = b) _ ⟨b, 2, none⟩ _ rfl) (fun _ => .inl)⟩
end Go.Proofs.Ytdhoedohchbagaa
