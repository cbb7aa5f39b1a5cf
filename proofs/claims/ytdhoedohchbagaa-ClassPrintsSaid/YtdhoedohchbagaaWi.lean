/- Walks: the reference's bytes of a set; which patterns match nothing; the least length. -/
import Derived.Test.YtdhoedohchbagaaWe
namespace Go.Proofs.Ytdhoedohchbagaa
open Go.RowKit

theorem Try.infoU8 : (Try.prog.info? 5).map (fun i => (i.zero, i.size, i.bytes)) = some (some (.int .u8 0), 1, 1) := by kernel_rfl

theorem boolsCell {w : World} {base : Nat} {e : TypeId} {A : Option Addr} {n c : Nat} {L : List Bool} (h : w.ownsRow base e 1 (.slice A n c) n (boolCells L)) (hn : 0 < n) :
    ∃ g, A = some ⟨g, 0, none⟩ ∧ base ≤ g ∧ ∀ j, j < n → w.cell? ⟨g, j, none⟩ = some (.bool (L.getD j false)) := by
  rcases h.2 with ⟨_, h0⟩ | ⟨g, cap, cur, hv, hb, _⟩
  · omega
  · injection hv with h1 h2 h3
    subst h1
    refine ⟨g, rfl, hb, fun j hj => ?_⟩
    have hl : L.length = n := by have := h.1; simpa [boolCells] using this
    rw [h.cellAt j (by omega), boolCells_get L j (by omega)]
    simp [List.getD, hl, hj]

set_option maxRecDepth 20000 in
set_option maxHeartbeats 1000000 in
theorem bytesR_any (x : BSet) (w : World) :
    Calls Try.prog 47 #[x.val] w fun e w' => e = .returned (.string ⟨(bytesM x).toArray⟩) ∧ Below w.heap.size w w' := by
  unfold BSet.val
  go_enter Try.func47, Try.ntmps47
  go_wp2_with fail
  refine (flags_any x _).mono ?_
  rintro e w1 ⟨A1, c1, rfl, hown, hb⟩
  simp only [World.size_alloc] at hown hb
  have hb1 : Below w.heap.size w w1 := (((Below.refl w.heap.size w).alloc (Nat.le_refl _) _).alloc (by simp) _).trans (hb.mono (by omega))
  have hsz1 := hb.size
  simp only [World.size_alloc] at hsz1
  have HO := hid (World.ownsRow_made (base := w.heap.size + 1) (e := 5) (size := 1) (w.alloc (.cells #[w64 x.w0, w64 x.w1, w64 x.w2, w64 x.w3] 51)) #[] 0 (by simp) (by simp [maxLen]) (by simp))
  have HO1 := hid (own_below HO.out hb (by simp))
  have HF1 := hid (own_base (B := w.heap.size + 1) hown (by omega))
  clear hown hb HO
  go_wp2
  go_loopw [3, 5] (fun v i wr => ∃ (k : Nat) (A' : Option Addr) (c' : Nat), k ≤ 256 ∧ i = .int .i64 k ∧ v = .slice A' (bytesTo x k).length c' ∧
      wr.ownsRow (w.heap.size + 1) 5 1 (.slice A' (bytesTo x k).length c') (bytesTo x k).length (byteCells (bytesTo x k)) ∧
      wr.ownsRow (w.heap.size + 1) 4 1 (.slice A1 256 c1) 256 (boolCells (flagsM x)) ∧ Below w.heap.size w wr ∧ w.heap.size + 1 ≤ wr.heap.size) (fun _ i _ => 256 - (intOf i).toNat)
  case atStart => exact ⟨0, _, _, by omega, rfl, rfl, by simpa [bytesTo, byteCells] using HO1.out, HF1.out, hb1, by omega⟩
  case round =>
    obtain ⟨k, A', c', hk, rfl, rfl, hown, hfl, hb, hsz⟩ := hrel
    have hlen := bytesTo_length x k
    by_cases hlt : k < 256
    · obtain ⟨g, rfl, hgb, hcell⟩ := boolsCell hfl (by omega)
      have hck := hcell k hlt
      rw [flagsM_get x k hlt] at hck
      have HFL := hid hfl
      have HBS := hid (bytesTo_succ x k)
      clear hfl hcell HF1 HO1
      cases hx : x.has k
      · rw [hx] at hck HBS
        have HE : Hid (bytesTo x (k + 1) = bytesTo x k) := by rw [Hid, HBS.out]; simp
        clear hx HBS
        have HO := hid hown
        clear hown
        go_wp2
        go_roundw
        case rel => exact ⟨k + 1, A', c', by omega, by go_num, by rw [HE.out], by rw [HE.out]; exact HO.out, HFL.out, hb, hsz⟩
        case measure => simp [intOf]; omega
      · rw [hx] at hck HBS
        have HE : Hid (bytesTo x (k + 1) = bytesTo x k ++ [UInt8.ofNat k]) := by rw [Hid, HBS.out]; simp
        clear hx HBS
        go_wp2_with (at_builtin; refine wpList_append1 _ rfl _ _ 69 rfl (w.heap.size + 1) 5 _ 1 1 Try.underlying69 Try.infoU8 rfl (by decide) _ _ _ rfl hown 1 [.int .u8 (k : Int)] rfl rfl rfl ?_ (by decide) hsz ?_)
        · omega
        intro A2 d2 w3 hown3 hg3
        have hb3 := below_grown hb hown hg3 (by omega) (by omega)
        have hsz3 := Nat.le_trans hsz hg3.size
        have HFL3 := hid (HFL.out.kept hg3 (own_ne HFL.out hown (by decide)))
        have HO := hid hown3
        clear hown hown3 hb hg3 hck
        go_wp2
        go_roundw
        case rel => exact ⟨k + 1, A2, d2, by omega, by go_num, by rw [HE.out]; simp, by rw [HE.out]; simpa [byteCells, Nat.mod_eq_of_lt hlt] using HO.out, HFL3.out, hb3, hsz3⟩
        case measure => simp [intOf]; omega
    · have hcv := conv_own (P := Try.prog) (src := 69) (dst := 9) (bytesTo x k) Try.underlying69 Try.underlying5 Try.underlying9 hown
      have HO := hid hown
      clear hown hfl HF1 HO1
      go_wp2
      go_ret
      have hkk : k = 256 := by omega
      subst hkk
      exact ⟨rfl, hb⟩

theorem isEmpty_str (l : List UInt8) : ((⟨l.toArray⟩ : ByteArray).toList.isEmpty) = l.isEmpty := by
  simp

end Go.Proofs.Ytdhoedohchbagaa
