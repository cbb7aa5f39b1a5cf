/- Walks. -/
import Derived.Test.YtmcacdegikgmnaaTyp
import Derived.Test.YtmcacdegikgmnaaMod
import Derived.Deep.RegionHeld3
namespace Go.Proofs.Ytmcacdegikgmnaa
open Go.RowKit


theorem cut_any (s : ByteArray) (m : Nat) (w : World) (_hs : s.size ≤ 9223372036854775807) (_hm : m ≤ 1000000) :
    Calls Try.prog 13 #[.string s, .int .i64 m] w fun e w' => e = .returned (.string (if m < s.size then s.extract 0 m else s)) ∧ w = w' := by
  by_cases h : m < s.size
  · go_enter Try.func13, Try.ntmps13
    go_wp2
    go_ret
    exact ⟨rfl, rfl⟩
  · go_enter Try.func13, Try.ntmps13
    go_wp2
    go_ret
    exact ⟨rfl, rfl⟩

set_option maxHeartbeats 400000 in
theorem has_any (s : BSet) (b : Nat) (hb : b < 256) (w : World) :
    Calls Try.prog 72 #[s.val, .int .u8 (b : Int)] w fun e w' => e = .returned (.bool (s.has b)) ∧ Below w.heap.size w w' := by
  have hcell : (w.alloc (.cells #[w64 s.w0, w64 s.w1, w64 s.w2, w64 s.w3] 40)).cell? ⟨w.heap.size, b / 64, none⟩ = some (.int .u64 ((s.word (b / 64)).toNat : Int)) := by
    rw [cell_of_row _ w.heap.size (b / 64) _ _ (0, 0) (heap_alloc_new w _)]
    have h4 : b / 64 < 4 := by omega
    generalize b / 64 = k at h4
    match k, h4 with
    | 0, _ => rfl
    | 1, _ => rfl
    | 2, _ => rfl
    | 3, _ => rfl
  have hw := (s.word (b / 64)).isLt
  unfold BSet.val BSet.has
  generalize s.word (b / 64) = x at *
  go_enter Try.func72, Try.ntmps72
  go_wp2
  go_ret
  exact ⟨by rw [← bit_of]; rfl, (Below.refl _ _).alloc (Nat.le_refl _) _⟩

set_option maxHeartbeats 400000 in
theorem goodRef_any (A : Option Addr) (n c : Nat) (l : List Item) (w : World) (hl : l.length = n) (hn : n ≤ 9223372036854775807) (hr : Rd w A (itemCells l)) :
    Calls Try.prog 14 #[.slice A n c] w fun e w' => e = .returned (.bool (goodM l)) ∧ w = w' := by
  have HL := hid hl; clear hl
  go_enter Try.func14, Try.ntmps14
  go_wp2
  go_loop [3] (fun i => ∃ k, k ≤ n ∧ i = .int .i64 k ∧ (l.take k).all (fun x => !(x.run && x.set != BSet.zero)) = true) (fun i => n - (intOf i).toNat)
  case atStart => exact ⟨0, by omega, rfl, by simp⟩
  case round =>
    obtain ⟨k, hk, rfl, hall⟩ := hrel
    have HA := hid hall; clear hall
    by_cases hlt : k < n
    · obtain ⟨b, off, rfl, hbl, hc⟩ := hr.at (by rw [itemCells_length, HL.out]; omega)
      have HK : Hid (k < l.length) := by rw [HL.out]; exact hlt
      obtain ⟨c0, c1, c2, c3, c4⟩ := item_at hc k HK.out
      clear hc hr
      generalize hx : l[k]'HK.out = x at *
      have HX := hid hx; clear hx
      obtain ⟨r, x0, x1, x2, x3⟩ := x
      simp only at c0 c1 c2 c3 c4
      have HS : Hid (∀ q, (l.take (k + 1)).all q = ((l.take k).all q && q ⟨r, x0, x1, x2, x3⟩)) := by
        intro q
        rw [List.take_succ_eq_append_getElem HK.out, HX.out]; simp
      cases r
      · go_wp2
        go_round
        case rel => exact ⟨k + 1, by omega, by go_num, by rw [HS.out, HA.out]; rfl⟩
        case measure => simp [intOf]; omega
      · by_cases hz : (⟨x0, x1, x2, x3⟩ : BSet) = BSet.zero
        · have heq : ∀ W, (Op.equalIn 10000 40 (.agg #[w64 x0, w64 x1, w64 x2, w64 x3]) (.agg #[.int .u64 0, .int .u64 0, .int .u64 0, .int .u64 0])).run Try.prog W = .ok true W := by
            intro W; have := Try.eqSet ⟨x0, x1, x2, x3⟩ BSet.zero W; rw [beq_iff_eq.2 hz] at this; exact this
          have HZ := hid hz; clear hz
          go_wp2
          go_round
          case rel => exact ⟨k + 1, by omega, by go_num, by rw [HS.out, HA.out]; simp [HZ.out]⟩
          case measure => simp [intOf]; omega
        · have heq : ∀ W, (Op.equalIn 10000 40 (.agg #[w64 x0, w64 x1, w64 x2, w64 x3]) (.agg #[.int .u64 0, .int .u64 0, .int .u64 0, .int .u64 0])).run Try.prog W = .ok false W := by
            intro W; have := Try.eqSet ⟨x0, x1, x2, x3⟩ BSet.zero W; rw [beq_eq_false_iff_ne.2 hz] at this; exact this
          have HZ := hid hz; clear hz
          go_wp2
          go_ret
          have e : goodM l = false := by
            unfold goodM
            rw [Bool.and_eq_false_iff]; left
            rw [List.all_eq_false]
            exact ⟨l[k]'HK.out, List.getElem_mem _, by rw [HX.out]; simp [HZ.out]⟩
          rw [e]
          exact ⟨rfl, rfl⟩
    · go_wp2
      go_ret
      have hkn : k = l.length := by rw [HL.out]; omega
      have e : goodM l = decide ((n : Int) < 61) := by
        unfold goodM
        rw [show l.all (fun x => !(x.run && x.set != BSet.zero)) = true from by have := HA.out; rw [hkn, List.take_length] at this; exact this, HL.out]
        simp; omega
      rw [e]
      exact ⟨rfl, rfl⟩

set_option maxHeartbeats 400000 in
theorem hasC_any (s : BSet) (b : Nat) (hb : b < 256) (w : World) :
    Calls Try.prog 62 #[s.val, .int .u8 (b : Int)] w fun e w' => e = .returned (.bool (s.has b)) ∧ Below w.heap.size w w' := by
  unfold BSet.val
  go_enter Try.func62, Try.ntmps62
  go_wp2_with (go_at_call 72; refine (has_any s b hb _).mono ?_; rintro e w1 ⟨rfl, hb1⟩)
  go_ret
  exact ⟨rfl, ((Below.refl _ _).alloc (Nat.le_refl _) _).trans (hb1.mono (by simp))⟩

set_option maxHeartbeats 400000 in
theorem places_any (s : ByteArray) (one : Int) (all : Bool) (w : World) (hs : s.size ≤ 1000000) :
    Calls Try.prog 52 #[.string s, .int .i64 one, .bool all] w fun e w' => ∃ A c, e = .returned (.slice A (s.size + 1) c) ∧ Rd w' A (boolCells (placesM (s.size + 1) one all)) ∧ Below w.heap.size w w' := by
  have HLn : Hid ((boolCells (placesM (s.size + 1) one all)).length = s.size + 1) := by simp [Hid, boolCells_length, placesM]
  have HV : ∀ k (h : k < s.size + 1), Hid ((boolCells (placesM (s.size + 1) one all))[k]'(by rw [HLn.out]; exact h) = .bool (all || ((k : Int) == one))) := by
    intro k h; simp [Hid, boolCells, placesM]
  generalize boolCells (placesM (s.size + 1) one all) = L at *
  cases all
  all_goals
    go_enter Try.func52, Try.ntmps52
    go_wp2_with (at_make; refine wpList_make1 _ rfl _ _ 64 rfl w.heap.size 4 _ 1 Try.underlying64 Try.infoBool rfl .i64 .i64 _ _ (s.size + 1) rfl rfl (by omega) (by omega) (by omega) (by omega) (Nat.le_refl _) ?_)
    intro w1 hown1 hg1
    have hb1 := (Below.refl w.heap.size w).grown hg1 (Nat.le_refl _) (by simp)
    go_wp2
    go_loopw [15] (fun i wr => ∃ k, k ≤ s.size + 1 ∧ i = .int .i64 k ∧
        wr.ownsRow w.heap.size 4 1 (.slice (some ⟨w.heap.size, 0, none⟩) (s.size + 1) (s.size + 1)) (s.size + 1) (L.take k ++ List.replicate (s.size + 1 - k) (.bool false)) ∧ Below w.heap.size w wr)
      (fun i _ => s.size + 1 - (intOf i).toNat)
    case atStart => exact ⟨0, by omega, rfl, by simpa using hown1, hb1⟩
    case round =>
      obtain ⟨k, hk, rfl, hown, hb⟩ := hrel
      by_cases hlt : k < s.size + 1
      · have hf := hown.frozenAt k
        have hc : wr.cell? ⟨w.heap.size, k, none⟩ = some (.bool false) := by rw [hown.cellAt k (by omega), fill_get L _ k _ HLn.out hlt]
        go_wp2
        go_roundw
        case rel =>
          have hst := hown.stored k (L[k]'(by rw [HLn.out]; exact hlt))
          rw [fill_step L _ k _ HLn.out hlt, (HV k hlt).out] at hst
          exact ⟨k + 1, by omega, by go_num, hst.1, hb.setCell (Nat.le_refl _) _⟩
        case measure => simp [intOf]; omega
      · go_wp2
        go_ret
        have hkk : k = s.size + 1 := by omega
        rw [hkk, fill_done L _ _ HLn.out] at hown
        exact ⟨_, _, rfl, Rd_of_own hown, hb⟩

theorem Below.get {w w' : World} (h : Below w.heap.size w w') {b off : Nat} (hb : b < w.heap.size) : w'.cell? ⟨b, off, none⟩ = w.cell? ⟨b, off, none⟩ := h.cell (p := ⟨b, off, none⟩) hb

end Go.Proofs.Ytmcacdegikgmnaa
