/- Walks: the reference's set of some bytes; 'lives' of layer 8. -/
import Derived.Test.YtdhoedohchbagaaWf
import Derived.Test.YtdhoedohchbagaaTyp
import Derived.Test.YtdhoedohchbagaaPlain
import Derived.Test.YtdhoedohchbagaaWb
namespace Go.Proofs.Ytdhoedohchbagaa
open Go.RowKit

theorem boolCells_set (l : List Bool) (i : Nat) (b : Bool) : (boolCells l).set i (.bool b) = boolCells (l.set i b) := by simp [boolCells, List.map_set]

set_option maxRecDepth 20000 in
set_option maxHeartbeats 1000000 in
theorem ofR_any (s : ByteArray) (w : World) (hs : s.size ≤ 1000000) :
    Calls Try.prog 36 #[.string s] w fun e w' => e = .returned (ofM s.data.toList).val ∧ Below w.heap.size w w' := by
  have HSZ : Hid (s.data.toList.length = s.size) := by rw [Hid]; simp
  have HOL := hid (ofFlags_length s.data.toList)
  have HO0 : Hid (ofFlags (s.data.toList.take 0) = List.replicate 256 false) := rfl
  go_enter Try.func36, Try.ntmps36
  go_wp2_with fail
  refine (none_any _).mono ?_
  rintro e w1 ⟨A1, c1, rfl, hown, hb⟩
  rw [← HO0.out] at hown
  simp only [World.size_alloc] at hown hb
  have hz1 := (Blk.new w 51 #[.int .u64 0, .int .u64 0, .int .u64 0, .int .u64 0]).below hb (by simp)
  have hb1 := ((Below.refl w.heap.size w).alloc (Nat.le_refl _) (.cells #[.int .u64 0, .int .u64 0, .int .u64 0, .int .u64 0] 51)).trans (hb.mono (by simp))
  have hsz1 := hb.size
  simp only [World.size_alloc] at hsz1
  have HZ1 := hid hz1
  obtain ⟨g, cap, hA1, hgb⟩ : ∃ g cap, Value.slice A1 256 c1 = .slice (some ⟨g, 0, none⟩) 256 cap ∧ w.heap.size + 1 ≤ g := by
    rcases hown.2 with ⟨_, h0⟩ | ⟨g, cap, cur, hv, hbg, _⟩
    · exact absurd h0 (by omega)
    · exact ⟨g, cap, hv, hbg⟩
  injection hA1 with hA1 _ hc1
  subst hA1 hc1
  clear hb hz1
  go_wp2
  go_loopw [4] (fun i wr => ∃ (k : Nat), k ≤ s.size ∧ i = .int .i64 k ∧ wr.ownsRow (w.heap.size + 1) 4 1 (.slice (some ⟨g, 0, none⟩) 256 c1) 256 (boolCells (ofFlags (s.data.toList.take k))) ∧
      Blk wr w.heap.size 51 #[.int .u64 0, .int .u64 0, .int .u64 0, .int .u64 0] ∧ Below w.heap.size w wr ∧ w.heap.size + 1 ≤ wr.heap.size) (fun i _ => s.size - (intOf i).toNat)
  case atStart => exact ⟨0, by omega, rfl, hown, HZ1.out, hb1, hsz1⟩
  case round =>
    obtain ⟨k, hk, rfl, hown2, hz2, hb2, hsz2⟩ := hrel
    have HZ2 := hid hz2
    clear hz2 hown hb1
    by_cases hlt : k < s.size
    · have hks : k < s.data.toList.length := by rw [HSZ.out]; exact hlt
      have HOS := hid (ofFlags_succ s.data.toList k hks)
      have HEQ : Hid ((s.data.toList[k]'hks) = s[k]) := rfl
      have hby : (s[k]).toNat < 256 := (s[k]).toNat_lt
      have hol := ofFlags_length (s.data.toList.take k)
      have hcl : wr.cell? ⟨g, (s[k]).toNat, none⟩ = some (.bool ((ofFlags (s.data.toList.take k)).getD (s[k]).toNat false)) := by
        rw [hown2.cellAt _ (by omega), boolCells_get _ _ (by omega)]
        simp [List.getD, hol, hby]
      have hfr := hown2.frozenAt (s[k]).toNat
      have hst := hown2.stored (s[k]).toNat (.bool true)
      have HST := hid hst
      clear hst hown2 hol
      go_wp2
      go_roundw
      case rel =>
        refine ⟨k + 1, by omega, by go_num, ?_, HZ2.out.set_far (by omega), hb2.setCell (by simp; omega) _, by simpa using hsz2⟩
        rw [HOS.out, HEQ.out, ← boolCells_set]; exact HST.out.1
      case measure => simp [intOf]; omega
    · have hkk : s.data.toList.take k = s.data.toList := List.take_of_length_le (by rw [HSZ.out]; omega)
      rw [hkk] at hown2
      clear hkk
      go_wp2_with fail
      refine (make_any _ c1 (ofFlags s.data.toList) _ HOL.out (Rd_of_own hown2)).mono ?_
      rintro e w3 ⟨rfl, hb3⟩
      have hz3 := HZ2.out.below hb3 HZ2.out.lt
      have HM := hid (makeM_val (ofFlags s.data.toList))
      have HB3 : Hid (Below w.heap.size w w3) := hb2.trans (hb3.mono (by omega))
      rw [HM.out]
      have d0 := hz3.cell 0
      have d1 := hz3.cell 1
      have d2 := hz3.cell 2
      have d3 := hz3.cell 3
      have g0 := hz3.frozen 0
      have g1 := hz3.frozen 1
      have g2 := hz3.frozen 2
      have g3 := hz3.frozen 3
      simp only [List.getElem?_toArray, List.getElem?_cons_zero, List.getElem?_cons_succ] at d0 d1 d2 d3
      clear hz3 hown2 hb3 hb2
      have HM2 : Hid ((ofM s.data.toList).val = _) := HM.out
      generalize accW (ofFlags s.data.toList) 0 64 = a0 at *
      generalize accW (ofFlags s.data.toList) 1 64 = a1 at *
      generalize accW (ofFlags s.data.toList) 2 64 = a2 at *
      generalize accW (ofFlags s.data.toList) 3 64 = a3 at *
      go_wp2
      refine bodyPost_ret (v := (ofM s.data.toList).val) ?_ rfl ⟨rfl, ?_⟩
      · rw [HM2.out]
        have q0 := fun u => cell_set_same (u := u) d0
        have q1 := fun u v => cell_set_same (w := w3.setCell ⟨w.heap.size, 0, none⟩ v) (u := u) (x := .int .u64 0) (o := 1) (b := w.heap.size) (by simpa [go_sem] using d1)
        have q2 := fun u v v' => cell_set_same (w := (w3.setCell ⟨w.heap.size, 0, none⟩ v).setCell ⟨w.heap.size, 1, none⟩ v') (u := u) (x := .int .u64 0) (o := 2) (b := w.heap.size) (by simpa [go_sem] using d2)
        have q3 := fun u v v' v'' => cell_set_same (w := ((w3.setCell ⟨w.heap.size, 0, none⟩ v).setCell ⟨w.heap.size, 1, none⟩ v').setCell ⟨w.heap.size, 2, none⟩ v'') (u := u) (x := .int .u64 0) (o := 3) (b := w.heap.size) (by simpa [go_sem] using d3)
        simp [results, Try.results36, go_sem, q0, q1, q2, q3]
      · exact (((HB3.out.setCell (by simp) _).setCell (by simp) _).setCell (by simp) _).setCell (by simp) _
end Go.Proofs.Ytdhoedohchbagaa
