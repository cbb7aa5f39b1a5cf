/- Walks: the reference's sets, made of flags. -/
import Derived.Test.YtdhoedohchbagaaWe
namespace Go.Proofs.Ytdhoedohchbagaa
open Go.RowKit

set_option maxRecDepth 20000 in
theorem none_any (w : World) :
    Calls Try.prog 92 #[] w fun e w' => ∃ A c, e = .returned (.slice A 256 c) ∧ w'.ownsRow w.heap.size 4 1 (.slice A 256 c) 256 (boolCells (List.replicate 256 false)) ∧ Below w.heap.size w w' := by
  have HF := hid (flags_any BSet.zero)
  rw [flagsM_zero] at HF
  generalize List.replicate 256 false = L at *
  go_enter Try.func92, Try.ntmps92
  go_wp2_with fail
  refine (HF.out _).mono ?_
  rintro e w1 ⟨A1, c1, rfl, hown, hb⟩
  go_wp2
  go_ret
  exact ⟨A1, c1, rfl, hown, hb⟩

/-- Four words by their place. -/
def cells4 (f : Nat → Nat) : Array Value := #[.int .u64 (f 0 : Int), .int .u64 (f 1 : Int), .int .u64 (f 2 : Int), .int .u64 (f 3 : Int)]
theorem cells4_get (f : Nat → Nat) (k : Nat) (h : k < 4) : (cells4 f)[k]? = some (.int .u64 (f k : Int)) := by
  match k, h with
  | 0, _ => rfl
  | 1, _ => rfl
  | 2, _ => rfl
  | 3, _ => rfl
theorem cells4_set (f : Nat → Nat) (k v : Nat) (h : k < 4) : (cells4 f).setIfInBounds k (.int .u64 (v : Int)) = cells4 (fun j => if j = k then v else f j) := by
  match k, h with
  | 0, _ => rfl
  | 1, _ => rfl
  | 2, _ => rfl
  | 3, _ => rfl

theorem makeM_val (fl : List Bool) : (makeM fl).val = .agg #[.int .u64 (accW fl 0 64 : Int), .int .u64 (accW fl 1 64 : Int), .int .u64 (accW fl 2 64 : Int), .int .u64 (accW fl 3 64 : Int)] := by
  have h0 := makeM_word fl 0 (by omega)
  have h1 := makeM_word fl 1 (by omega)
  have h2 := makeM_word fl 2 (by omega)
  have h3 := makeM_word fl 3 (by omega)
  simp only [BSet.word] at h0 h1 h2 h3
  simp only [BSet.val, w64, h0, h1, h2, h3]

theorem Blk.set4 {w : World} {g : Nat} {t : TypeId} {f : Nat → Nat} (h : Blk w g t (cells4 f)) (k : Nat) (hk : k < 4) (v : Int) (n : Nat) (hv : v = (n : Int)) :
    Blk (w.setCell ⟨g, k, none⟩ (.int .u64 v)) g t (cells4 (fun j => if j = k then n else f j)) := by
  rw [hv, ← cells4_set f k n hk]; exact h.set k _

set_option maxRecDepth 20000 in
set_option maxHeartbeats 1000000 in
theorem make_any (A : Option Addr) (c : Nat) (fl : List Bool) (w : World) (hl : fl.length = 256) (hr : Rd w A (boolCells fl)) :
    Calls Try.prog 93 #[.slice A 256 c] w fun e w' => e = .returned (makeM fl).val ∧ Below w.heap.size w w' := by
  have HL := hid hl; clear hl
  obtain ⟨b, off, rfl, hbl, hc⟩ := hr.at (by rw [boolCells_length, HL.out]; omega)
  have HC : Hid (∀ j, j < 256 → w.cell? ⟨b, off + j, none⟩ = some (.bool (fl.getD j false))) := by
    intro j hj
    refine hc j _ ?_
    have hj' : j < fl.length := by rw [HL.out]; exact hj
    rw [boolCells_get fl j hj']; simp [List.getD, hj']
  clear hc hr
  go_enter Try.func93, Try.ntmps93
  go_wp2
  go_loopw [4] (fun i wr => ∃ (k : Nat) (f : Nat → Nat), k ≤ 4 ∧ i = .int .i64 k ∧ Blk wr (w.heap.size + 1) 51 (cells4 f) ∧ (∀ j, j < k → f j = accW fl j 64) ∧ (∀ j, k ≤ j → f j = 0) ∧
      Blk wr w.heap.size 51 (cells4 fun _ => 0) ∧ Below w.heap.size w wr) (fun i _ => 4 - (intOf i).toNat)
  case atStart => exact ⟨0, fun _ => 0, by omega, rfl, by simpa [cells4] using Blk.new (w.alloc (.cells (cells4 fun _ => 0) 51)) 51 (cells4 fun _ => 0), by omega, fun _ _ => rfl, (Blk.new w _ _).alloc _, ((Below.refl _ _).alloc (Nat.le_refl _) _).alloc (by simp) _⟩
  case round =>
    obtain ⟨k, f, hk, rfl, hx, hf1, hf0, hz, hb⟩ := hrel
    have HX := hid hx; have HF1 := hid hf1; have HF0 := hid hf0; have HZ := hid hz
    clear hx hf1 hf0 hz
    by_cases hlt : k < 4
    · obtain ⟨wo, rfl⟩ : ∃ wo : World, wo = wr := ⟨wr, rfl⟩
      go_wp2
      go_loopw [5] (fun i wx => ∃ (m : Nat) (g : Nat → Nat), m ≤ 64 ∧ i = .int .i64 (63 - (m : Int)) ∧ Blk wx (w.heap.size + 1) 51 (cells4 g) ∧ g k = accW fl k m ∧ (∀ j, j ≠ k → g j = f j) ∧
          Blk wx w.heap.size 51 (cells4 fun _ => 0) ∧ Below w.heap.size w wx) (fun i _ => (intOf i + 1).toNat)
      case atStart => exact ⟨0, f, by omega, by go_num, HX.out, HF0.out k (Nat.le_refl _), fun _ _ => rfl, HZ.out, hb⟩
      case round =>
        obtain ⟨m, g, hm, rfl, hx2, hg1, hg0, hz2, hb2⟩ := hrel
        by_cases hm2 : m < 64
        · have hacc := accW_lt fl k m
          have hacc2 : accW fl k m ≤ 9223372036854775807 := by
            have : 2 ^ m ≤ 2 ^ 63 := Nat.pow_le_pow_right (by omega) (by omega)
            omega
          have HG1 := hid hg1; have HG0 := hid hg0
          have HAC : Hid (accW fl k (m + 1) = 2 * accW fl k m + b2n (fl.getD (64 * k + (63 - m)) false)) := rfl
          have hcell : wr.cell? ⟨w.heap.size + 1, k, none⟩ = some (.int .u64 (accW fl k m : Int)) := by rw [hx2.cell, cells4_get g k hlt, hg1]
          have hfr := hx2.frozen k
          have hin : wr.cell? ⟨b, off + (64 * k + (63 - m)), none⟩ = some (.bool (fl.getD (64 * k + (63 - m)) false)) :=
            (hb2.cell (p := ⟨b, off + (64 * k + (63 - m)), none⟩) hbl).trans (HC.out _ (by omega))
          have HX2 := hid hx2; have HZ2 := hid hz2
          clear hg1 hg0 hacc hx2 hz2
          generalize accW fl k m = acc at *
          cases hbit : fl.getD (64 * k + (63 - m)) false
          · rw [hbit] at hin HAC
            clear hbit
            go_wp2
            go_roundw
            case rel =>
              have h1 := HX2.out.set4 k hlt (2 * (acc : Int)) (2 * acc) (by omega)
              refine ⟨m + 1, _, by omega, by go_num, h1, ?_, ?_, HZ2.out.set_far (by omega), hb2.setCell (by simp) _⟩
              · rw [HAC.out]; simp [b2n]
              · intro j hj; simp only [if_neg hj]; exact HG0.out j hj
            case measure => simp [intOf]; omega
          · rw [hbit] at hin HAC
            clear hbit
            go_wp2
            go_roundw
            case rel =>
              have h1 := (HX2.out.set4 k hlt (2 * (acc : Int)) (2 * acc) (by omega)).set4 k hlt (2 * (acc : Int) + 1) (2 * acc + 1) (by omega)
              refine ⟨m + 1, _, by omega, by go_num, h1, ?_, ?_, (HZ2.out.set_far (by omega)).set_far (by omega), (hb2.setCell (by simp) _).setCell (by simp) _⟩
              · rw [HAC.out]; simp [b2n]
              · intro j hj; simp only [if_neg hj]; exact HG0.out j hj
            case measure => simp [intOf]; omega
        · have HG1 := hid hg1; have HG0 := hid hg0; have HX2 := hid hx2; have HZ2 := hid hz2
          clear hg1 hg0 hx2 hz2
          go_wp2
          go_roundw
          case rel =>
            have hmm : m = 64 := by omega
            refine ⟨k + 1, g, by omega, by go_num, HX2.out, fun j hj => ?_, fun j hj => ?_, HZ2.out, hb2⟩
            · by_cases hjk : j = k
              · rw [hjk, HG1.out, hmm]
              · rw [HG0.out j hjk]; exact HF1.out j (by omega)
            · rw [HG0.out j (by omega)]; exact HF0.out j (by omega)
          case measure => simp [intOf]; omega
    · have hk4 : k = 4 := by omega
      subst hk4
      have c0 := HX.out.cell 0
      have c1 := HX.out.cell 1
      have c2 := HX.out.cell 2
      have c3 := HX.out.cell 3
      rw [cells4_get _ _ (by omega), HF1.out _ (by omega)] at c0 c1 c2 c3
      have d0 := HZ.out.cell 0
      have d1 := HZ.out.cell 1
      have d2 := HZ.out.cell 2
      have d3 := HZ.out.cell 3
      rw [cells4_get _ _ (by omega)] at d0 d1 d2 d3
      have g0 := HZ.out.frozen 0
      have g1 := HZ.out.frozen 1
      have g2 := HZ.out.frozen 2
      have g3 := HZ.out.frozen 3
      go_wp2
      refine bodyPost_ret (v := (makeM fl).val) ?_ rfl ⟨rfl, ?_⟩
      · rw [makeM_val]
        have q0 := fun u => cell_set_same (u := u) d0
        have q1 := fun u v => cell_set_same (w := wr.setCell ⟨w.heap.size, 0, none⟩ v) (u := u) (x := .int .u64 ((0 : Nat) : Int)) (o := 1) (b := w.heap.size) (by simpa [go_sem] using d1)
        have q2 := fun u v v' => cell_set_same (w := (wr.setCell ⟨w.heap.size, 0, none⟩ v).setCell ⟨w.heap.size, 1, none⟩ v') (u := u) (x := .int .u64 ((0 : Nat) : Int)) (o := 2) (b := w.heap.size) (by simpa [go_sem] using d2)
        have q3 := fun u v v' v'' => cell_set_same (w := ((wr.setCell ⟨w.heap.size, 0, none⟩ v).setCell ⟨w.heap.size, 1, none⟩ v').setCell ⟨w.heap.size, 2, none⟩ v'') (u := u) (x := .int .u64 ((0 : Nat) : Int)) (o := 3) (b := w.heap.size) (by simpa [go_sem] using d3)
        simp [results, Try.results93, go_sem, q0, q1, q2, q3]
      · exact (((hb.setCell (by simp) _).setCell (by simp) _).setCell (by simp) _).setCell (by simp) _
end Go.Proofs.Ytdhoedohchbagaa
