/- Declarations that only this law reaches. A builder's String: the shelf's contract at this program. Walks: class.Print. Plain: patterns as texts, and how they are read back. Walks: strings.Builder's WriteString; glob's sign. -/
import Derived.Test.YtemhdkmijfngnaaGreatMb
import Derived.Shelf.Strings.Builder1
import Derived.Test.YtemhdkmijfngnaaGreatMe
import Derived.Test.YtemhdkmijfngnaaGreatMd
import Derived.Deep.CutRange
import Derived.Test.YtemhdkmijfngnaaGreatMf
import Derived.Lib.AppendStr
namespace Go.Proofs.YtemhdkmijfngnaaGreat
open Go.RowKit

theorem Tryz.sizeBuilder : (Tryz.prog.info? 121).map (·.size) = some 2 := by kernel_rfl
theorem Tryz.liesBuilder : liesAt Tryz.prog Tryz.prog.depth 121 1 0 121 1 = true := by kernel_rfl

set_option maxHeartbeats 1000000 in
set_option maxRecDepth 100000 in
theorem copyCheck_used (b : Nat) (w : World) (h0 : w.cell? ⟨b, 0, none⟩ = some (.pointer (some ⟨b, 0, none⟩))) :
    Calls Tryz.prog 117 #[.pointer (some ⟨b, 0, none⟩)] w fun e w' => e = .returned (.tuple #[]) ∧ w = w' := by
  obtain ⟨j, hj, _⟩ := Option.map_eq_some_iff.1 Tryz.sizeBuilder
  go_enter Tryz.func117, Tryz.ntmps117
  go_wp2
  rw [Lib.run_neq_ptr_same w _ Tryz.underlying118 hj]
  go_wp2
  go_end0
  exact ⟨rfl, rfl⟩

set_option maxHeartbeats 1000000 in
set_option maxRecDepth 100000 in
theorem copyCheck_fresh (b : Nat) (w : World) (h0 : w.cell? ⟨b, 0, none⟩ = some (.pointer none)) (hsh : w.shape? b = some (121, 2)) (hfz : w.frozen? ⟨b, 0, none⟩ = false) :
    Calls Tryz.prog 117 #[.pointer (some ⟨b, 0, none⟩)] w fun e w' => e = .returned (.tuple #[]) ∧ w' = w.setCell ⟨b, 0, none⟩ (.pointer (some ⟨b, 0, none⟩)) := by
  obtain ⟨j, hj, hjs⟩ := Option.map_eq_some_iff.1 Tryz.sizeBuilder
  go_enter Tryz.func117, Tryz.ntmps117
  go_wp2
  rw [Lib.run_to_unsafe w ⟨b, 0, none⟩ Tryz.underlying118 Tryz.underlying185 hj (by rw [hjs]; decide) hsh (Nat.zero_lt_succ 1)]
  simp only [Result.andThen]
  rw [Oper.upon_value]
  go_wp2
  rw [run_callFunc_extern Tryz.func140 (by kernel_rfl) (by kernel_rfl) (by kernel_rfl) (e := Extern.AbiNoEscape.same) (by kernel_rfl)]
  rw [Lib.run_noEscape]
  simp only [Result.andThen]
  rw [Oper.upon_value]
  go_wp2
  rw [Lib.run_from_unsafe w ⟨b, 0, none⟩ Tryz.underlying185 Tryz.underlying118 hj hsh Tryz.liesBuilder]
  simp only [Result.andThen]
  rw [Oper.upon_value]
  go_wp2
  go_end0
  exact ⟨rfl, rfl⟩
theorem copyCheck_any (B b : Nat) (bs : List Value) (w : World) (h : Lib.IsBuilder 121 5 B b bs w) :
    Calls Tryz.prog 117 #[.pointer (some ⟨b, 0, none⟩)] w fun e w' => e = .returned (.tuple #[]) ∧ Lib.BuilderAt 121 5 B b (.pointer (some ⟨b, 0, none⟩)) bs w' ∧ Below B w w' := by
  rcases h with h | h
  · refine (copyCheck_fresh b w h.cell0 h.shape h.frozen0).mono ?_
    rintro e w' ⟨rfl, rfl⟩
    exact ⟨rfl, h.used _, (Below.refl B w).setCell h.1 _⟩
  · refine (copyCheck_used b w h.cell0).mono ?_
    rintro e w' ⟨rfl, rfl⟩
    exact ⟨rfl, h, Below.refl B w⟩

end Go.Proofs.YtemhdkmijfngnaaGreat
namespace Go.Proofs.YtemhdkmijfngnaaGreat
open Go.Shelf

def Tryz.bsRen : Go.Shelf.Ren := ⟨fun | 169 => 78 | n => n, fun | 70 => 118 | 9 => 9 | 0 => 0 | 72 => 121 | 37 => 119 | 127 => 163 | 3 => 3 | 5 => 5 | n => n, fun | n => n⟩
theorem Tryz.bsLays : Go.Proofs.Lays.n169 Tryz.prog Tryz.bsRen := {
  mixed := by kernel_rfl
  f169 := Tryz.func78.trans (congrArg some (by kernel_rfl))
  t0 := Tryz.underlying0
  a0 := Tryz.isAgg0
  z0 := Tryz.sizeOf0
  v0 := Tryz.zeroValue0
  t3 := Tryz.underlying3
  a3 := Tryz.isAgg3
  z3 := Tryz.sizeOf3
  v3 := Tryz.zeroValue3
  t9 := Tryz.underlying9
  a9 := Tryz.isAgg9
  z9 := Tryz.sizeOf9
  v9 := Tryz.zeroValue9
  t37 := Tryz.underlying119
  a37 := Tryz.isAgg119
  z37 := Tryz.sizeOf119
  v37 := Tryz.zeroValue119
  t70 := Tryz.underlying118
  a70 := Tryz.isAgg118
  z70 := Tryz.sizeOf118
  v70 := Tryz.zeroValue118
  t72 := Tryz.underlying121
  a72 := Tryz.isAgg121
  z72 := Tryz.sizeOf121
  v72 := Tryz.zeroValue121
  t127 := Tryz.underlying163
  a127 := Tryz.isAgg163
  z127 := Tryz.sizeOf163
  v127 := Tryz.zeroValue163 }
theorem Tryz.bsExtra : Builder.Extra Tryz.prog Tryz.bsRen := {
  sizeBuilder := by kernel_rfl
  liesBuilder := by kernel_rfl
  t5 := Tryz.underlying5
  a5 := Tryz.isAgg5
  z5 := Tryz.sizeOf5
  v5 := Tryz.zeroValue5
  infoByte := by kernel_rfl
  cellsByte := by kernel_rfl
  sizeByte := by kernel_rfl
  neB5 := by decide }
open Go.RowKit in
theorem bstring_any (B b : Nat) (l : List UInt8) (w : World) (h : Lib.IsBuilder 121 5 B b (Lib.byteCells l) w) (hBw : B ≤ w.heap.size) :
    Calls Tryz.prog 78 #[.pointer (some ⟨b, 0, none⟩)] w fun e w' => e = .returned (.string ⟨l.toArray⟩) ∧ Below B w w' := Any.Builder_String_any Tryz.bsLays Tryz.bsExtra B b l w h hBw
end Go.Proofs.YtemhdkmijfngnaaGreat
namespace Go.Proofs.YtemhdkmijfngnaaGreat
open Go.RowKit PopT

theorem BldN.new (N : Nat → Prop) (B : Nat) (w : World) (hN : ∀ k, ¬ N k) (hB : B ≤ w.heap.size) : BldN N B w.heap.size [] (w.alloc (.cells #[.pointer none, .slice none 0 0] 121)) :=
  ⟨fun k hk => absurd hk (hN k), hN _, hB, _, _, .inl rfl, Blk.new w 121 #[.pointer none, .slice none 0 0], ⟨rfl, .inl ⟨rfl, rfl⟩⟩, by simp [Value.ownBlock], fun k hk => by simp [Value.ownBlock] at hk⟩
end Go.Proofs.YtemhdkmijfngnaaGreat
namespace Go.Proofs.YtemhdkmijfngnaaGreat
open Go.RowKit PopT

theorem At.byte {s : ByteArray} {i y : Nat} {r : List Nat} (h : At s i (y :: r)) : byteAt s i = y := h.cons.2.1

end Go.Proofs.YtemhdkmijfngnaaGreat
namespace Go.Proofs.YtemhdkmijfngnaaGreat
open Go.RowKit

set_option maxRecDepth 20000 in
set_option maxHeartbeats 400000 in
theorem writeString_any (B b : Nat) (bs : List Value) (s : ByteArray) (w : World) (h : Lib.IsBuilder 121 5 B b bs w) (hlen : bs.length + s.size ≤ 1000000000) :
    Calls Tryz.prog 77 #[.pointer (some ⟨b, 0, none⟩), .string s] w fun e w' => e = .returned (.tuple #[.int .i64 (s.size : Int), .nilIface]) ∧ Lib.BuilderAt 121 5 B b (.pointer (some ⟨b, 0, none⟩)) (bs ++ Lib.strCells s) w' ∧ Below B w w' := by
  have HC := hid (copyCheck_any B b bs w h)
  obtain ⟨i0, hi, hz, hz1, hz2⟩ := info_parts Tryz.infoU8b
  clear h
  go_enter Tryz.func77, Tryz.ntmps77
  go_wp2_with fail
  refine HC.out.mono ?_
  rintro e w1 ⟨rfl, hB1, hbl⟩
  have hbs := hB1.lt
  obtain ⟨hBb, v, hbk, hown, hne⟩ := hB1
  have hk : Blk w1 b 121 #[.pointer (some ⟨b, 0, none⟩), v] := hbk
  obtain ⟨A, c0, rfl, -⟩ := own_shape hown
  have HK := hid hk
  have HO := hid hown
  have HB := hid hbl
  have HNE := hid hne
  have c1 : w1.cell? ⟨b, 1, none⟩ = some (.slice A bs.length c0) := hk.cell 1
  have f1 := hk.frozen 1
  have hBw : B ≤ w1.heap.size := by omega
  clear hk hbk hown hbl hne HC
  go_wp2_with (at_builtin; refine Lib.wpList_append_own_string _ rfl _ _ 119 9 rfl B 5 i0 Tryz.underlying119 Tryz.underlying9 hi hz hz1 hz2 _ _ _ rfl HO.out s rfl ?_ ?_ hBw ?_)
  · unfold maxLen; omega
  · omega
  intro v' w3 hown3 hg3 _
  obtain ⟨A3, c3, rfl, -⟩ := own_shape hown3
  have HK3 : Hid (Blk w3 b 121 #[.pointer (some ⟨b, 0, none⟩), .slice A bs.length c0]) := (hg3.block b hbs (fun e => HNE.out e.symm)).trans HK.out
  have d1 : w3.cell? ⟨b, 1, none⟩ = some (.slice A bs.length c0) := HK3.out.cell 1
  have d2 := HK3.out.frozen 1
  have hlt3 := HK3.out.lt
  have HRES : Hid (Lib.BuilderAt 121 5 B b (.pointer (some ⟨b, 0, none⟩)) (bs ++ Lib.strCells s) (w3.setCell ⟨b, 1, none⟩ (.slice A3 (bs.length + s.size) c3))) :=
    Lib.BuilderAt.put hBb HK3.out (by rw [List.length_append, Lib.strCells_length]; exact hown3) (by decide)
  have HBF : Hid (Below B w (w3.setCell ⟨b, 1, none⟩ (.slice A3 (bs.length + s.size) c3))) := (HB.out.grown hg3 hBw (fun k hk => (HO.out.lt k hk).1)).setCell hBb _
  clear hown3 hg3
  go_wp2_with fail
  go_ret2
  exact ⟨rfl, HRES.out, HBF.out⟩

end Go.Proofs.YtemhdkmijfngnaaGreat
