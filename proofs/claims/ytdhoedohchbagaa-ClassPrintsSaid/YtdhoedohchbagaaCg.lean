/- Walks: strings.Builder: copyCheck, WriteByte (over the library's own notion of a builder). -/
import Derived.Test.YtdhoedohchbagaaCa
import Derived.Test.YtdhoedohchbagaaMix2
import Derived.Test.YtdhoedohchbagaaKeep
import Derived.Lib.Builder
import Derived.Laws.Externs
namespace Go.Proofs.Ytdhoedohchbagaa
open Go.RowKit

theorem Try.sizeBuilder : (Try.prog.info? 130).map (·.size) = some 2 := by kernel_rfl
theorem Try.liesBuilder : liesAt Try.prog Try.prog.depth 130 1 0 130 1 = true := by kernel_rfl

set_option maxHeartbeats 1000000 in
set_option maxRecDepth 100000 in
theorem copyCheck_used (b : Nat) (w : World) (h0 : w.cell? ⟨b, 0, none⟩ = some (.pointer (some ⟨b, 0, none⟩))) :
    Calls Try.prog 111 #[.pointer (some ⟨b, 0, none⟩)] w fun e w' => e = .returned (.tuple #[]) ∧ w = w' := by
  obtain ⟨j, hj, _⟩ := Option.map_eq_some_iff.1 Try.sizeBuilder
  go_enter Try.func111, Try.ntmps111
  go_wp2
  rw [Lib.run_neq_ptr_same w _ Try.underlying128 hj]
  go_wp2
  go_end0
  exact ⟨rfl, rfl⟩

set_option maxHeartbeats 1000000 in
set_option maxRecDepth 100000 in
theorem copyCheck_fresh (b : Nat) (w : World) (h0 : w.cell? ⟨b, 0, none⟩ = some (.pointer none)) (hsh : w.shape? b = some (130, 2)) (hfz : w.frozen? ⟨b, 0, none⟩ = false) :
    Calls Try.prog 111 #[.pointer (some ⟨b, 0, none⟩)] w fun e w' => e = .returned (.tuple #[]) ∧ w' = w.setCell ⟨b, 0, none⟩ (.pointer (some ⟨b, 0, none⟩)) := by
  obtain ⟨j, hj, hjs⟩ := Option.map_eq_some_iff.1 Try.sizeBuilder
  go_enter Try.func111, Try.ntmps111
  go_wp2
  rw [Lib.run_to_unsafe w ⟨b, 0, none⟩ Try.underlying128 Try.underlying171 hj (by rw [hjs]; decide) hsh (Nat.zero_lt_succ 1)]
  simp only [Result.andThen]
  rw [Oper.upon_value]
  go_wp2
  rw [run_callFunc_extern Try.func125 (by kernel_rfl) (by kernel_rfl) (by kernel_rfl) (e := Extern.AbiNoEscape.same) (by kernel_rfl)]
  rw [Lib.run_noEscape]
  simp only [Result.andThen]
  rw [Oper.upon_value]
  go_wp2
  rw [Lib.run_from_unsafe w ⟨b, 0, none⟩ Try.underlying171 Try.underlying128 hj hsh Try.liesBuilder]
  simp only [Result.andThen]
  rw [Oper.upon_value]
  go_wp2
  go_end0
  exact ⟨rfl, rfl⟩
theorem copyCheck_any (B b : Nat) (bs : List Value) (w : World) (h : Lib.IsBuilder 130 5 B b bs w) :
    Calls Try.prog 111 #[.pointer (some ⟨b, 0, none⟩)] w fun e w' => e = .returned (.tuple #[]) ∧ Lib.BuilderAt 130 5 B b (.pointer (some ⟨b, 0, none⟩)) bs w' ∧ Below B w w' := by
  rcases h with h | h
  · refine (copyCheck_fresh b w h.cell0 h.shape h.frozen0).mono ?_
    rintro e w' ⟨rfl, rfl⟩
    exact ⟨rfl, h.used _, (Below.refl B w).setCell h.1 _⟩
  · refine (copyCheck_used b w h.cell0).mono ?_
    rintro e w' ⟨rfl, rfl⟩
    exact ⟨rfl, h, Below.refl B w⟩

theorem Try.infoU8b : (Try.prog.info? 5).map (fun i => (i.zero, i.size, i.bytes)) = some (some (.int .u8 0), 1, 1) := by kernel_rfl
set_option maxRecDepth 20000 in
set_option maxHeartbeats 400000 in
theorem writeByte_any (B b : Nat) (bs : List Value) (c : Int) (w : World) (h : Lib.IsBuilder 130 5 B b bs w) (hlen : bs.length + 1 ≤ 1000000000) :
    Calls Try.prog 85 #[.pointer (some ⟨b, 0, none⟩), .int .u8 c] w fun e w' => e = .returned .nilIface ∧ Lib.BuilderAt 130 5 B b (.pointer (some ⟨b, 0, none⟩)) (bs ++ [.int .u8 c]) w' ∧ Below B w w' := by
  have HC := hid (copyCheck_any B b bs w h)
  clear h
  go_enter Try.func85, Try.ntmps85
  go_wp2_with fail
  refine HC.out.mono ?_
  rintro e w1 ⟨rfl, hB1, hbl⟩
  have hbs := hB1.lt
  obtain ⟨hBb, v, hbk, hown, hne⟩ := hB1
  have hk : Blk w1 b 130 #[.pointer (some ⟨b, 0, none⟩), v] := hbk
  obtain ⟨A, c0, rfl, -⟩ := own_shape hown
  have HK := hid hk
  have HO := hid hown
  have HB := hid hbl
  have HNE := hid hne
  have c1 : w1.cell? ⟨b, 1, none⟩ = some (.slice A bs.length c0) := hk.cell 1
  have f1 := hk.frozen 1
  have hBw : B ≤ w1.heap.size := by omega
  clear hk hbk hown hbl hne HC
  go_wp2_with (at_builtin; refine wpList_append1K _ rfl _ _ 69 rfl B 5 _ 1 1 Try.underlying69 Try.infoU8b rfl (by decide) _ _ _ rfl HO.out 1 [.int .u8 c] rfl rfl rfl ?_ (by decide) hBw ?_)
  · omega
  intro g c3 w3 hown3 hk3 hf3
  have HK3 := hid (hk3.blk HK.out HNE.out)
  have hgb : g ≠ b := by
    rintro rfl
    rcases hf3 with h | h
    · exact HNE.out h
    · omega
  have d1 : w3.cell? ⟨b, 1, none⟩ = some (.slice A bs.length c0) := HK3.out.cell 1
  have d2 := HK3.out.frozen 1
  have hlt3 := HK3.out.lt
  have HRES : Hid (Lib.BuilderAt 130 5 B b (.pointer (some ⟨b, 0, none⟩)) (bs ++ [.int .u8 c]) (w3.setCell ⟨b, 1, none⟩ (.slice (some ⟨g, 0, none⟩) (bs.length + 1) c3))) := by
    refine ⟨hBb, _, HK3.out.set 1 (.slice (some ⟨g, 0, none⟩) (bs.length + 1) c3), ?_, by simp [Value.ownBlock, hgb]⟩
    have := own_kept_set hown3 ⟨b, 1, none⟩ (.slice (some ⟨g, 0, none⟩) (bs.length + 1) c3) (by simp [Value.ownBlock, hgb])
    simpa using this
  have HBF : Hid (Below B w (w3.setCell ⟨b, 1, none⟩ (.slice (some ⟨g, 0, none⟩) (bs.length + 1) c3))) := (HB.out.trans (hk3.below hBw (fun k hk => (HO.out.lt k hk).1))).setCell hBb _
  clear hown3 hk3 hf3
  go_wp2_with fail
  go_ret
  exact ⟨rfl, HRES.out, HBF.out⟩
end Go.Proofs.Ytdhoedohchbagaa
